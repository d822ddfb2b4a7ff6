/-
  leb: the numbers with a sign; a row of bytes of the call's own.
  flash: the flash and the cursor as they lie in memory; each function's contract.
  flash: reads, and a cursor that moves: contracts.
-/
import Derived.Test.YtpanlhbdphobdaaGreatDoorDeAL
import Derived.Lib.Small
import Derived.Lib.Walk
import Derived.Test.YtpanlhbdphobdaaGreatDoorDeAE
import Derived.Test.YtpanlhbdphobdaaGreatDoorRows
import Derived.Test.YtpanlhbdphobdaaGreatDoorDeAD
import Derived.Test.YtpanlhbdphobdaaGreatDoorShelf
import Derived.Maps.RangeWalk
import Derived.Deep.QuietTactic
import Derived.BigQuiet
import Derived.Outline
namespace Go.Proofs.YtpanlhbdphobdaaGreatDoor
open Go.RowKit
set_option linter.unusedVariables false

theorem extend_wide (v : Nat) (hv : v < 2 ^ 64) (n : Nat) (hn : n = 64) : wrap64 (v : Int) = extendL v n := by
  subst hn
  unfold wrap64 extendL
  rw [Nat.mod_eq_of_lt hv]
  simp only [Nat.reducePow, Nat.reduceSub] at hv ⊢
  split <;> omega

theorem extend_less (v s n : Nat) (hs : s + n = 64) (hn : 1 ≤ n) : wrap64 (IntKind.u64.wrap ((v : Int) * 2 ^ s)) / 2 ^ s = extendL v n := by
  have h1 : IntKind.u64.wrap ((v : Int) * 2 ^ s) = ((v % 2 ^ n * 2 ^ s : Nat) : Int) := by
    rw [IntKind.wrap_u64]
    have h64 : (18446744073709551616 : Nat) = 2 ^ n * 2 ^ s := by rw [← Nat.pow_add, show n + s = 64 from by omega]
    have : (v : Int) * 2 ^ s % 18446744073709551616 = ((v * 2 ^ s % 18446744073709551616 : Nat) : Int) := by
      rw [Int.natCast_emod, Int.natCast_mul, Int.natCast_pow]; rfl
    rw [this, h64, Nat.mul_mod_mul_right]
  have hlt : v % 2 ^ n < 2 ^ n := Nat.mod_lt _ (Nat.two_pow_pos n)
  rw [h1]
  unfold extendL
  generalize v % 2 ^ n = m at *
  have hp : 0 < 2 ^ s := Nat.two_pow_pos s
  have h63 : 2 ^ (n - 1) * 2 ^ s = 9223372036854775808 := by rw [← Nat.pow_add, show n - 1 + s = 63 from by omega]
  have h64 : 2 ^ n * 2 ^ s = 18446744073709551616 := by rw [← Nat.pow_add, show n + s = 64 from by omega]
  have hz : ((2 ^ s : Nat) : Int) = (2 : Int) ^ s := by rw [Int.natCast_pow]; rfl
  rw [← hz]
  have hs0 : ((2 ^ s : Nat) : Int) ≠ 0 := by omega
  split
  · rename_i h
    have : m * 2 ^ s < 9223372036854775808 := by rw [← h63]; exact Nat.mul_lt_mul_of_pos_right h hp
    rw [IntWalk.wrap64_in _ (by omega), Int.natCast_mul, Int.mul_ediv_cancel _ hs0]
  · rename_i h
    have hge : 9223372036854775808 ≤ m * 2 ^ s := by rw [← h63]; exact Nat.mul_le_mul_right _ (by omega)
    have hl2 : m * 2 ^ s < 18446744073709551616 := by rw [← h64]; exact Nat.mul_lt_mul_of_pos_right hlt hp
    have : wrap64 ((m * 2 ^ s : Nat) : Int) = ((m : Int) - (2 ^ n : Nat)) * (2 ^ s : Nat) := by
      unfold wrap64
      rw [Int.sub_mul, ← Int.natCast_mul, ← Int.natCast_mul, h64]
      omega
    rw [this, Int.mul_ediv_cancel _ hs0]

set_option maxHeartbeats 400000 in
theorem extend_any (v : Nat) (n : Int) (w : World) (hv : Hid (v < 2 ^ 64)) (h0 : 1 ≤ n) (h1 : n ≤ 64) :
    Calls Tryz.prog 192 #[.int .u64 v, .int .i64 n] w fun e w' => e = .returned (.int .i64 (extendL v n.toNat)) ∧ w = w' := by
  go_enter Tryz.func192, Tryz.ntmps192
  go_wp2
  · go_ret
    exact ⟨ret_int (extend_wide v hv.out _ (by omega)), rfl⟩
  · go_ret
    exact ⟨ret_int (extend_less v _ _ (by omega) (by omega)), rfl⟩

/-- type facts -/
theorem u8_elem : IsElem Tryz.prog 39 5 1 1 := IsElem.mk' Tryz.underlying39 (z := .int .u8 0) (by kernel_rfl) rfl (by omega)

/-- a row of bytes of the call's own -/
def OwnB (w : World) (base : Nat) (v : Value) (bs : List UInt8) : Prop := w.ownsRow base 5 1 v bs.length (bs.map B)

theorem OwnB.push {w : World} {base : Nat} {v : Value} {bs : List UInt8} {b : UInt8} (h : w.ownsRow base 5 1 v (bs.length + 1) (bs.map B ++ [B b])) : OwnB w base v (bs ++ [b]) :=
  own_cast h (by simp) (by simp)
theorem OwnB.cast {w : World} {base : Nat} {v : Value} {bs bs' : List UInt8} (h : OwnB w base v bs) (e : bs = bs') : OwnB w base v bs' := e ▸ h

theorem want_of (x k : Nat) (hk : k ≤ 6) : (((x : Int) != (2 ^ k - 1) % 256) = true ↔ x ≠ 2 ^ k - 1) := by
  have : ∀ k : Fin 7, ((2 : Int) ^ k.val - 1) % 256 = ((2 ^ k.val - 1 : Nat) : Int) := by decide
  rw [this ⟨k, by omega⟩]
  simp [bne_iff_ne]
  omega

set_option maxHeartbeats 400000 in
theorem signed_any (A : Option Addr) (cap : Nat) (bs : List UInt8) (n : Int) (w : World) (hr : Hid (Reads w w.heap.size 1 A bs.length (bs.map B))) (hl : bs.length ≤ 70000)
    (v : Int) (size e : Nat) (hR : Hid (signedL bs n = (v, size, e))) :
    Calls Tryz.prog 178 #[.slice A bs.length cap, .int .i64 n] w fun e' w' => e' = .returned (.tuple #[.int .i64 v, .int .i64 size, .int .i64 e]) ∧ w = w' := by
  rcases rawL_cases bs n with ⟨v', size', c, h, h0, h1, h2, h3, h4, h5, h6⟩ | ⟨e', h, he⟩
  · have hR' := hR.out
    unfold signedL at hR'
    rw [h] at hR'
    simp only [ne_eq, not_true_eq_false, if_false] at hR'
    have H := Lib.hid h; clear h
    have H6 := Lib.hid h6; clear h6
    obtain ⟨x, k, hx⟩ : ∃ x k, beyondL c size' n.toNat = (x, k) := ⟨_, _, rfl⟩
    obtain ⟨mn, hmn⟩ : ∃ mn : Int, min (7 * (size' : Int)) n = mn := ⟨_, rfl⟩
    have hmn2 : min (7 * size') n.toNat = mn.toNat := by omega
    have hk6 : k ≤ 6 := by
      have := congrArg Prod.snd hx
      unfold beyondL at this
      split at this <;> simp at this <;> omega
    rw [hx, hmn2] at hR'
    have hmn3 : 1 ≤ mn := by omega
    have hmn4 : mn ≤ 64 := by omega
    have HX := Lib.hid hx; clear hx
    have HM := hide hmn; clear hmn hmn2
    obtain ⟨out, ho⟩ : ∃ out, extendL v' mn.toNat = out := ⟨_, rfl⟩
    have hE := extend_any v' mn w H6 hmn3 hmn4
    rw [ho] at hE hR'
    clear ho
    have HE := hide hE; clear hE
    go_enter Tryz.func178, Tryz.ntmps178
    go_wp2_with fail
    refine (raw_eq A cap bs n w hr hl _ _ _ _ H).mono ?_; rintro e w' ⟨rfl, rfl⟩
    go_wp2_with fail
    rw [HM.out]
    refine HE.out.mono ?_; rintro e w' ⟨rfl, rfl⟩
    have HR := hide hR'; clear hR'
    by_cases hneg : out < 0
    · by_cases hk : 0 < k
      · go_wp2_with fail
        refine (beyond_any c size' n x k HX _ h4 h0 h1 h2 h5 h3).mono ?_; rintro e w' ⟨rfl, rfl⟩
        go_wp2_with fail
        · have ht := (want_of x k hk6).1 (by assumption)
          have hR' := HR.out
          rw [if_pos hneg, if_pos ⟨hk, ht⟩] at hR'
          injection hR' with e1 e2
          injection e2 with e2 e3
          subst e1 e2 e3
          go_ret3
          exact ⟨rfl, rfl⟩
        · have ht : ¬ x ≠ 2 ^ k - 1 := fun h => by have := (want_of x k hk6).2 h; simp_all
          have hR' := HR.out
          rw [if_pos hneg, if_neg (fun h => ht h.2)] at hR'
          injection hR' with e1 e2
          injection e2 with e2 e3
          subst e1 e2 e3
          go_ret3
          exact ⟨rfl, rfl⟩
      · go_wp2_with fail
        refine (beyond_any c size' n x k HX _ h4 h0 h1 h2 h5 h3).mono ?_; rintro e w' ⟨rfl, rfl⟩
        go_wp2_with fail
        have hR' := HR.out
        rw [if_neg (fun h => hk h.1)] at hR'
        injection hR' with e1 e2
        injection e2 with e2 e3
        subst e1 e2 e3
        go_ret3
        exact ⟨rfl, rfl⟩
    · by_cases hk : 0 < k
      · go_wp2_with fail
        refine (beyond_any c size' n x k HX _ h4 h0 h1 h2 h5 h3).mono ?_; rintro e w' ⟨rfl, rfl⟩
        go_wp2_with fail
        · have ht : ((x : Int) != 0) = true := by assumption
          have ht : x ≠ 0 := by simpa [bne_iff_ne] using ht
          have hR' := HR.out
          rw [if_neg (show ¬ out < 0 from by omega), if_pos ⟨hk, ht⟩] at hR'
          injection hR' with e1 e2
          injection e2 with e2 e3
          subst e1 e2 e3
          go_ret3
          exact ⟨rfl, rfl⟩
        · have ht : ((x : Int) != 0) = false := by assumption
          have ht : x = 0 := by simpa using ht
          have hR' := HR.out
          rw [if_neg (show ¬ out < 0 from by omega), if_neg (fun h => h.2 ht)] at hR'
          injection hR' with e1 e2
          injection e2 with e2 e3
          subst e1 e2 e3
          go_ret3
          exact ⟨rfl, rfl⟩
      · go_wp2_with fail
        refine (beyond_any c size' n x k HX _ h4 h0 h1 h2 h5 h3).mono ?_; rintro e w' ⟨rfl, rfl⟩
        go_wp2_with fail
        have hR' := HR.out
        rw [if_neg (fun h => hk h.1)] at hR'
        injection hR' with e1 e2
        injection e2 with e2 e3
        subst e1 e2 e3
        go_ret3
        exact ⟨rfl, rfl⟩
  · have hR' := hR.out
    unfold signedL at hR'
    rw [h] at hR'
    have he1 : 0 < e' := by omega
    simp only [ne_eq, show ¬ e' = 0 from by omega, not_false_eq_true, if_true] at hR'
    injection hR' with e1 e2
    injection e2 with e2 e3
    subst e1 e2 e3
    have H := Lib.hid h; clear h he
    go_enter Tryz.func178, Tryz.ntmps178
    go_wp2_with fail
    refine (raw_eq A cap bs n w hr hl _ _ _ _ H).mono ?_; rintro e w' ⟨rfl, rfl⟩
    go_wp2_with fail
    go_ret3
    exact ⟨rfl, rfl⟩
end Go.Proofs.YtpanlhbdphobdaaGreatDoor

namespace Go.Proofs.YtpanlhbdphobdaaGreatDoor
open Go.RowKit
set_option linter.unusedVariables false

/-- bytes that a call has made: a slice of its own -/
def MadeB (w : World) (bs : List UInt8) (e : Ending) (w' : World) : Prop := ∃ A c, e = .returned (.slice A bs.length c) ∧ Hid (OwnB w' w.heap.size (.slice A bs.length c) bs) ∧ Hid (Below w.heap.size w w') ∧ Hid (bs.length ≤ c)
theorem MadeB.of {w w' : World} {v : Value} {bs bs' : List UInt8} (h : OwnB w' w.heap.size v bs') (he : bs' = bs) (hb : Below w.heap.size w w') : MadeB w bs (.returned v) w' := by
  subst he
  obtain ⟨A, c, rfl, h1, _⟩ := own_form h
  exact ⟨A, c, rfl, h, hb, h1⟩
/-- what the call owns stays while blocks from before it are written -/
theorem own_only {w w' : World} {base : Nat} {v : Value} {bs : List UInt8} {S : List Nat} (h : OwnB w base v bs) (ho : Only S w w') (hS : ∀ x, x ∈ S → x < base) : OwnB w' base v bs := by
  refine ⟨h.1, ?_⟩
  rcases h.2 with hn | ⟨g, cap, cur, rfl, hbg, hh, rest⟩
  · exact .inl hn
  · exact .inr ⟨g, cap, cur, rfl, hbg, (ho.block g (Array.getElem?_eq_some_iff.1 hh).1 (fun hx => by have := hS g hx; omega)).trans hh, rest⟩

theorem B_ints (bs : List UInt8) : (bs.map fun b => (b.toNat : Int)).map (Value.int .u8) = bs.map B := by rw [List.map_map]; rfl

theorem clone_any (A : Option Addr) (c Bk : Nat) (bs : List UInt8) (w : World) (hr : Hid (Reads w Bk 1 A bs.length (bs.map B))) (hl : bs.length ≤ 1000000) :
    Calls Tryz.prog 48 #[.slice A bs.length c] w (MadeB w bs) := by
  cases A with
  | none =>
    have h0 : bs.length = 0 := by
      rcases Nat.eq_zero_or_pos bs.length with h | h
      · exact h
      · obtain ⟨ad, h, _⟩ := hr.out.2 h; cases h
    have hn : bs = [] := List.eq_nil_of_length_eq_zero h0
    subst hn
    refine (Tryz.bytes_Clone_nil _ c w).mono ?_
    rintro e w' ⟨rfl, rfl⟩
    exact ⟨none, 0, rfl, own_nil _ _ _ _, Below.refl _ _, Nat.le_refl _⟩
  | some a =>
    refine (Tryz.bytes_Clone_at a bs.length c (bs.map fun b => (b.toNat : Int)) w (by simp) (by omega) (fun i hi => ?_)).mono ?_
    · obtain ⟨ad, b, h1, h2, h3, _, _⟩ := hr.out.byte hi
      injection h1 with h1
      subst h1
      rw [h3, List.getD_eq_getElem?_getD, List.getElem?_map, h2.out]
      rfl
    · rintro e w' ⟨v', rfl, ho, _, hb⟩
      rw [B_ints] at ho
      exact MadeB.of (own_cast ho (by simp) rfl) rfl hb

/-- a flash: its bytes, how many reads there were, from which one on it fails -/
structure FL (w : World) (f : Nat) (A : Option Addr) (c : Nat) (bs : List UInt8) (reads fail : Int) : Prop where
  blk : w.heap[f]? = some (.cells #[.slice A bs.length c, .int .i64 reads, .int .i64 fail] 87 (0, 0))
  row : Reads w f 1 A bs.length (bs.map B)
  cap : bs.length ≤ c

/-- a cursor -/
structure CU (w : World) (g f : Nat) (fr tu at_ : Int) : Prop where
  blk : w.heap[g]? = some (.cells #[.pointer (some ⟨f, 0, none⟩), .int .i64 fr, .int .i64 tu, .int .i64 at_] 91 (0, 0))
  lt : f < g

theorem FL.keep {w w' : World} {f c : Nat} {A : Option Addr} {bs : List UInt8} {r fl : Int} {S : List Nat} (h : FL w f A c bs r fl) (ho : Only S w w') (hf : f ∉ S) (hS : ∀ x, x ∈ S → f ≤ x) : FL w' f A c bs r fl :=
  ⟨(ho.block f (blk_lt h.blk) hf).trans h.blk, h.row.below (ho.below (Nat.le_of_lt (blk_lt h.blk)) hS), h.cap⟩
theorem FL.below {w w' : World} {f c : Nat} {A : Option Addr} {bs : List UInt8} {r fl : Int} {Bk : Nat} (h : FL w f A c bs r fl) (hb : Below Bk w w') (hf : f < Bk) : FL w' f A c bs r fl :=
  ⟨(hb.block f hf).trans h.blk, h.row.below (hb.mono (Nat.le_of_lt hf)), h.cap⟩
theorem CU.keep {w w' : World} {g f : Nat} {a b d : Int} {S : List Nat} (h : CU w g f a b d) (ho : Only S w w') (hg : g ∉ S) : CU w' g f a b d := ⟨(ho.block g (blk_lt h.blk) hg).trans h.blk, h.lt⟩
theorem CU.below {w w' : World} {g f : Nat} {a b d : Int} {Bk : Nat} (h : CU w g f a b d) (hb : Below Bk w w') (hg : g < Bk) : CU w' g f a b d := ⟨(hb.block g hg).trans h.blk, h.lt⟩

def NewPost (w : World) (bs : List UInt8) (e : Ending) (w' : World) : Prop :=
  ∃ f A c, e = .returned (.tuple #[.pointer (some ⟨f, 0, none⟩), .int .i64 0]) ∧ w.heap.size ≤ f ∧ Hid (FL w' f A c bs 0 (-1)) ∧ Hid (Below w.heap.size w w')

set_option maxHeartbeats 400000 in
theorem new_any (A : Option Addr) (c Bk : Nat) (bs : List UInt8) (w : World) (hr : Hid (Reads w Bk 1 A bs.length (bs.map B))) (hl : bs.length ≤ 65536) :
    Calls Tryz.prog 18 #[.slice A bs.length c] w (NewPost w bs) := by
  go_enter Tryz.func18, Tryz.ntmps18
  go_wp2_with fail
  refine (clone_any A c Bk bs w hr (by omega)).mono ?_; rintro e w1 ⟨A1, c1, rfl, r1, b1, k1⟩
  go_wp2_with fail
  go_ret2
  have hs := b1.out.size
  exact ⟨w1.heap.size, A1, c1, rfl, hs, ⟨heap_alloc_new w1 _, (Reads.of_own r1.out).alloc (Nat.le_refl _) _, k1.out⟩, b1.out.alloc hs _⟩

set_option maxHeartbeats 400000 in
theorem new_long (A : Option Addr) (n c : Nat) (w : World) (hl : 65536 < n) (hl2 : n ≤ 10000000) :
    Calls Tryz.prog 18 #[.slice A n c] w fun e w' => e = .returned (.tuple #[.pointer none, .int .i64 15]) ∧ w = w' := by
  go_enter Tryz.func18, Tryz.ntmps18
  go_wp2_with fail
  go_ret2
  exact ⟨rfl, rfl⟩

set_option maxHeartbeats 400000 in
theorem left_any (g f : Nat) (fr tu at_ : Int) (w : World) (hc : Hid (CU w g f fr tu at_)) (h1 : 0 ≤ at_) (h2 : at_ ≤ tu) (h3 : tu ≤ 1000000) :
    Calls Tryz.prog 26 #[.pointer (some ⟨g, 0, none⟩)] w fun e w' => e = .returned (.int .i64 (tu - at_)) ∧ ∃ n, w' = w.drewN n := by
  have c2 := cell_blk hc.out.blk 2
  have c3 := cell_blk hc.out.blk 3
  simp at c2 c3
  go_enter Tryz.func26, Tryz.ntmps26
  go_wp2_with fail
  go_quiet (fail)
  go_wp2_with fail
  go_ret
  exact ⟨rfl, _, rfl⟩

set_option maxHeartbeats 400000 in
theorem at_any (g f : Nat) (fr tu at_ : Int) (w : World) (hc : Hid (CU w g f fr tu at_)) :
    Calls Tryz.prog 21 #[.pointer (some ⟨g, 0, none⟩)] w fun e w' => e = .returned (.int .i64 at_) ∧ w = w' := by
  have c3 := cell_blk hc.out.blk 3
  simp at c3
  go_enter Tryz.func21, Tryz.ntmps21
  go_wp2_with fail
  go_ret
  exact ⟨rfl, rfl⟩

def CurPost (w : World) (f : Nat) (a b : Int) (e : Ending) (w' : World) : Prop :=
  ∃ g, e = .returned (.tuple #[.pointer (some ⟨g, 0, none⟩), .int .i64 0]) ∧ w.heap.size ≤ g ∧ Hid (CU w' g f a b a) ∧ Hid (Below w.heap.size w w')

set_option maxHeartbeats 400000 in
theorem cursor_any (f c : Nat) (A : Option Addr) (bs : List UInt8) (r fl a b : Int) (w : World) (hf : Hid (FL w f A c bs r fl)) (h1 : 0 ≤ a) (h2 : a ≤ b) (h3 : b ≤ (bs.length : Int)) :
    Calls Tryz.prog 20 #[.pointer (some ⟨f, 0, none⟩), .int .i64 a, .int .i64 b] w (CurPost w f a b) := by
  have c0 := cell_blk hf.out.blk 0
  simp at c0
  go_enter Tryz.func20, Tryz.ntmps20
  go_wp2_with fail
  go_ret2
  exact ⟨_, rfl, by simp, ⟨heap_alloc_new _ _, blk_lt hf.out.blk⟩, (Below.refl _ _).alloc (Nat.le_refl _) _⟩
end Go.Proofs.YtpanlhbdphobdaaGreatDoor

namespace Go.Proofs.YtpanlhbdphobdaaGreatDoor
open Go.RowKit
set_option linter.unusedVariables false

theorem FL.bump {w : World} {f c : Nat} {A : Option Addr} {bs : List UInt8} {r fl : Int} (h : FL w f A c bs r fl) (r' : Int) : FL (w.setCell ⟨f, 1, none⟩ (.int .i64 r')) f A c bs r' fl :=
  ⟨by rw [setCell_blk h.blk]; rfl, h.row.setCell (p := ⟨f, 1, none⟩) (Nat.le_refl _) _, h.cap⟩
theorem FL.failAt {w : World} {f c : Nat} {A : Option Addr} {bs : List UInt8} {r fl : Int} (h : FL w f A c bs r fl) (n : Int) : FL (w.setCell ⟨f, 2, none⟩ (.int .i64 n)) f A c bs r n :=
  ⟨by rw [setCell_blk h.blk]; rfl, h.row.setCell (p := ⟨f, 2, none⟩) (Nat.le_refl _) _, h.cap⟩
theorem CU.move {w : World} {g f : Nat} {a b d : Int} (h : CU w g f a b d) (d' : Int) : CU (w.setCell ⟨g, 3, none⟩ (.int .i64 d')) g f a b d' := ⟨by rw [setCell_blk h.blk]; rfl, h.lt⟩

set_option maxHeartbeats 400000 in
theorem add_any (f c : Nat) (A : Option Addr) (bs : List UInt8) (r fl : Int) (w : World) (hf : Hid (FL w f A c bs r fl)) (h1 : 0 ≤ r) (h2 : r ≤ 1000000) :
    Calls Tryz.prog 196 #[.pointer (some ⟨f, 1, none⟩), .int .i64 1] w fun e w' => e = .returned (.int .i64 (r + 1)) ∧ w' = w.setCell ⟨f, 1, none⟩ (.int .i64 (r + 1)) := by
  have c1 := cell_blk hf.out.blk 1
  simp at c1
  have z1 := frozen_blk hf.out.blk 1
  have hadd := run_call_add (P := Tryz.prog) Tryz.func197 (by kernel_rfl) (by kernel_rfl) (by kernel_rfl) .i64 (by kernel_rfl) (y := 1) (s := r + 1) c1 z1 (by
    simp [Op.intArith, IntKind.wrap_i64]
    omega)
  go_enter Tryz.func196, Tryz.ntmps196
  go_wp2_with fail
  go_ret
  exact ⟨rfl, rfl⟩

/-- what a part of the bytes is -/
def partB (bs : List UInt8) (a n : Int) : List UInt8 := (bs.drop a.toNat).take n.toNat
theorem part_len (bs : List UInt8) (a n : Int) (h1 : 0 ≤ a) (h2 : 0 ≤ n) (h3 : a + n ≤ (bs.length : Int)) : ((partB bs a n).length : Int) = n := by
  unfold partB; rw [List.length_take, List.length_drop]; omega

theorem FL.part {w : World} {f c : Nat} {A : Option Addr} {bs : List UInt8} {r fl : Int} (h : FL w f A c bs r fl) (a n : Nat) (ha : a < c) (hn : a + n ≤ bs.length) :
    Reads w f 1 (Option.map (fun x => x.add a) A) (partB bs a n).length ((partB bs a n).map B) := by
  have h1 := h.row.cut (k := a) (cap := c) (by omega) h.cap
  rw [if_neg (by omega)] at h1
  have h2 := h1.upto (k := n) (by omega)
  rw [Nat.mul_one, Nat.mul_one] at h2
  have hl : (partB bs a n).length = n := by have := part_len bs a n (by omega) (by omega) (by omega); omega
  rw [hl]
  unfold partB
  rw [List.map_take, List.map_drop]
  exact h2

def BytesPost (w : World) (f c : Nat) (A : Option Addr) (bs : List UInt8) (r fl : Int) (out : List UInt8) (e : Ending) (w' : World) : Prop :=
  ∃ A1 c1, e = .returned (.tuple #[.slice A1 out.length c1, .int .i64 0]) ∧ Hid (OwnB w' w.heap.size (.slice A1 out.length c1) out) ∧ Hid (FL w' f A c bs (r + 1) fl) ∧ Hid (Only [f] w w')

set_option maxHeartbeats 800000 in
set_option maxRecDepth 100000 in
theorem bytes_ok (f c : Nat) (A : Option Addr) (bs : List UInt8) (r fl a n : Int) (w : World) (hf : Hid (FL w f A c bs r fl)) (hr1 : 0 ≤ r) (hr2 : r ≤ 1000000) (hl : bs.length ≤ 65536)
    (h1 : 0 ≤ a) (h2 : 0 ≤ n) (h3 : a + n ≤ (bs.length : Int)) (h4 : fl < 0 ∨ r < fl) :
    Calls Tryz.prog 191 #[.pointer (some ⟨f, 0, none⟩), .int .i64 a, .int .i64 n] w (BytesPost w f c A bs r fl (partB bs a n)) := by
  have c0 := cell_blk hf.out.blk 0
  simp at c0
  have hf1 := hide (hf.out.bump (r + 1))
  have d0 := cell_blk hf1.out.blk 0
  have d2 := cell_blk hf1.out.blk 2
  simp at d0 d2
  have hcap := hf.out.cap
  have e1 : (bs.length : Int) ≤ (c : Int) := by omega
  have hadd := add_any f c A bs r fl w hf hr1 hr2
  have HA := hide hadd; clear hadd
  obtain ⟨an, rfl⟩ : ∃ x : Nat, a = x := ⟨a.toNat, by omega⟩
  obtain ⟨nn, rfl⟩ : ∃ x : Nat, n = x := ⟨n.toNat, by omega⟩
  have hlen : Hid ((partB bs an nn).length = nn) := by show _ = _; have := part_len bs an nn h1 h2 h3; omega
  by_cases han : an < c
  · have hrd := hide (hf1.out.part an nn han (by omega))
    rcases h4 with h4 | h4
    all_goals
      go_enter Tryz.func191, Tryz.ntmps191
      go_wp2_with fail
      refine HA.out.mono ?_; rintro e w1 ⟨rfl, rfl⟩
      go_wp2_with fail
      have hcl := clone_any (Option.map (fun x => x.add an) A) (c - an) f (partB bs an nn) _ hrd (by have := hlen.out; omega)
      rw [hlen.out] at hcl
      refine hcl.mono ?_; rintro e w1 ⟨A1, c1, rfl, r1, b1, k1⟩
      clear hcl
      go_wp2_with fail
      go_ret2
      exact ⟨A1, c1, rfl, own_base r1.out (fun g hg => by have := own_ge r1.out g hg; simpa using this), hf1.out.below b1.out (by have := blk_lt hf1.out.blk; simpa using this), (Only.setCell (S := [f]) w (p := ⟨f, 1, none⟩) (by simp) _).trans (Only.of_below b1.out)⟩
  · have hn0 : nn = 0 := by omega
    subst hn0
    have hac : an = c := by omega
    subst hac
    have hnil : Hid (partB bs an 0 = []) := by show _ = _; unfold partB; simp
    rcases h4 with h4 | h4
    all_goals
      go_enter Tryz.func191, Tryz.ntmps191
      go_wp2_with fail
      refine HA.out.mono ?_; rintro e w1 ⟨rfl, rfl⟩
      go_wp2_with fail
      refine (clone_any A _ f [] _ Reads.none_ (by simp)).mono ?_; rintro e w1 ⟨A1, c1, rfl, r1, b1, k1⟩
      go_wp2_with fail
      go_ret2
      rw [show (((0 : Nat) : Int)) = 0 from rfl, hnil.out]
      exact ⟨A1, c1, rfl, own_base r1.out (fun g hg => by have := own_ge r1.out g hg; simpa using this), hf1.out.below b1.out (by have := blk_lt hf1.out.blk; simpa using this), (Only.setCell (S := [f]) w (p := ⟨f, 1, none⟩) (by simp) _).trans (Only.of_below b1.out)⟩
end Go.Proofs.YtpanlhbdphobdaaGreatDoor
