/-
  flash: the flash and the cursor as they lie in memory; each function's contract.
-/
import Derived.Test.YtiaigkpnhmgphaaRows
import Derived.Test.YtiaigkpnhmgphaaLebE
import Derived.Test.YtiaigkpnhmgphaaRegionR
import Derived.Test.YtiaigkpnhmgphaaShelf
import Derived.Maps.RangeWalk
import Derived.Deep.QuietTactic
import Derived.BigQuiet
import Derived.Outline
namespace Go.Proofs.Ytiaigkpnhmgphaa
open Go.RowKit
set_option linter.unusedVariables false

/-- bytes that a call has made: a slice of its own -/
def MadeB (w : World) (bs : List UInt8) (e : Ending) (w' : World) : Prop := ∃ A c, e = .returned (.slice A bs.length c) ∧ Hid (OwnB w' w.heap.size (.slice A bs.length c) bs) ∧ Hid (Below w.heap.size w w') ∧ Hid (bs.length ≤ c)
theorem MadeB.of {w w' : World} {v : Value} {bs bs' : List UInt8} (h : OwnB w' w.heap.size v bs') (he : bs' = bs) (hb : Below w.heap.size w w') : MadeB w bs (.returned v) w' := by
  subst he
  obtain ⟨A, c, rfl, h1, _⟩ := own_form h
  exact ⟨A, c, rfl, h, hb, h1⟩
/-- what the call owns stays while blocks from before it are written -/
theorem own_only {w w' : World} {base : Nat} {v : Value} {bs : List UInt8} {S : List Nat} (h : OwnB w base v bs) (ho : Only S w w') (hS : ∀ x, x ∈ S → x < base) : OwnB w' base v bs := by
  refine ⟨h.1, ?_⟩
  rcases h.2 with hn | ⟨g, cap, cur, rfl, hbg, hh, rest⟩
  · exact .inl hn
  · exact .inr ⟨g, cap, cur, rfl, hbg, (ho.block g (Array.getElem?_eq_some_iff.1 hh).1 (fun hx => by have := hS g hx; omega)).trans hh, rest⟩

theorem B_ints (bs : List UInt8) : (bs.map fun b => (b.toNat : Int)).map (Value.int .u8) = bs.map B := by rw [List.map_map]; rfl

theorem clone_any (A : Option Addr) (c Bk : Nat) (bs : List UInt8) (w : World) (hr : Hid (Reads w Bk 1 A bs.length (bs.map B))) (hl : bs.length ≤ 1000000) :
    Calls Try.prog 24 #[.slice A bs.length c] w (MadeB w bs) := by
  cases A with
  | none =>
    have h0 : bs.length = 0 := by
      rcases Nat.eq_zero_or_pos bs.length with h | h
      · exact h
      · obtain ⟨ad, h, _⟩ := hr.out.2 h; cases h
    have hn : bs = [] := List.eq_nil_of_length_eq_zero h0
    subst hn
    refine (Try.bytes_Clone_nil _ c w).mono ?_
    rintro e w' ⟨rfl, rfl⟩
    exact ⟨none, 0, rfl, own_nil _ _ _ _, Below.refl _ _, Nat.le_refl _⟩
  | some a =>
    refine (Try.bytes_Clone_at a bs.length c (bs.map fun b => (b.toNat : Int)) w (by simp) (by omega) (fun i hi => ?_)).mono ?_
    · obtain ⟨ad, b, h1, h2, h3, _, _⟩ := hr.out.byte hi
      injection h1 with h1
      subst h1
      rw [h3, List.getD_eq_getElem?_getD, List.getElem?_map, h2.out]
      rfl
    · rintro e w' ⟨v', rfl, ho, _, hb⟩
      rw [B_ints] at ho
      exact MadeB.of (own_cast ho (by simp) rfl) rfl hb

/-- a flash: its bytes, how many reads there were, from which one on it fails -/
structure FL (w : World) (f : Nat) (A : Option Addr) (c : Nat) (bs : List UInt8) (reads fail : Int) : Prop where
  blk : w.heap[f]? = some (.cells #[.slice A bs.length c, .int .i64 reads, .int .i64 fail] 63 (0, 0))
  row : Reads w f 1 A bs.length (bs.map B)
  cap : bs.length ≤ c

/-- a cursor -/
structure CU (w : World) (g f : Nat) (fr to at_ : Int) : Prop where
  blk : w.heap[g]? = some (.cells #[.pointer (some ⟨f, 0, none⟩), .int .i64 fr, .int .i64 to, .int .i64 at_] 67 (0, 0))
  lt : f < g

theorem blk_lt {w : World} {g : Nat} {o : Obj} (h : w.heap[g]? = some o) : g < w.heap.size := (Array.getElem?_eq_some_iff.1 h).1
theorem FL.keep {w w' : World} {f c : Nat} {A : Option Addr} {bs : List UInt8} {r fl : Int} {S : List Nat} (h : FL w f A c bs r fl) (ho : Only S w w') (hf : f ∉ S) (hS : ∀ x, x ∈ S → f ≤ x) : FL w' f A c bs r fl :=
  ⟨(ho.block f (blk_lt h.blk) hf).trans h.blk, h.row.below (ho.below (Nat.le_of_lt (blk_lt h.blk)) hS), h.cap⟩
theorem FL.below {w w' : World} {f c : Nat} {A : Option Addr} {bs : List UInt8} {r fl : Int} {Bk : Nat} (h : FL w f A c bs r fl) (hb : Below Bk w w') (hf : f < Bk) : FL w' f A c bs r fl :=
  ⟨(hb.block f hf).trans h.blk, h.row.below (hb.mono (Nat.le_of_lt hf)), h.cap⟩
theorem CU.keep {w w' : World} {g f : Nat} {a b d : Int} {S : List Nat} (h : CU w g f a b d) (ho : Only S w w') (hg : g ∉ S) : CU w' g f a b d := ⟨(ho.block g (blk_lt h.blk) hg).trans h.blk, h.lt⟩
theorem CU.below {w w' : World} {g f : Nat} {a b d : Int} {Bk : Nat} (h : CU w g f a b d) (hb : Below Bk w w') (hg : g < Bk) : CU w' g f a b d := ⟨(hb.block g hg).trans h.blk, h.lt⟩
theorem cell_blk {w : World} {g : Nat} {cs : Array Value} {t : TypeId} (h : w.heap[g]? = some (.cells cs t (0, 0))) (i : Nat) : w.cell? ⟨g, i, none⟩ = cs[i]? := cell_of_row w g i cs t (0, 0) h
theorem frozen_blk {w : World} {g : Nat} {cs : Array Value} {t : TypeId} (h : w.heap[g]? = some (.cells cs t (0, 0))) (i : Nat) : w.frozen? ⟨g, i, none⟩ = false := by simp [World.frozen?, h]

def NewPost (w : World) (bs : List UInt8) (e : Ending) (w' : World) : Prop :=
  ∃ f A c, e = .returned (.tuple #[.pointer (some ⟨f, 0, none⟩), .int .i64 0]) ∧ w.heap.size ≤ f ∧ Hid (FL w' f A c bs 0 (-1)) ∧ Hid (Below w.heap.size w w')

set_option maxHeartbeats 400000 in
theorem new_any (A : Option Addr) (c Bk : Nat) (bs : List UInt8) (w : World) (hr : Hid (Reads w Bk 1 A bs.length (bs.map B))) (hl : bs.length ≤ 65536) :
    Calls Try.prog 8 #[.slice A bs.length c] w (NewPost w bs) := by
  go_enter Try.func8, Try.ntmps8
  go_wp2_with fail
  refine (clone_any A c Bk bs w hr (by omega)).mono ?_; rintro e w1 ⟨A1, c1, rfl, r1, b1, k1⟩
  go_wp2_with fail
  go_ret2
  have hs := b1.out.size
  exact ⟨w1.heap.size, A1, c1, rfl, hs, ⟨heap_alloc_new w1 _, (Reads.of_own r1.out).alloc (Nat.le_refl _) _, k1.out⟩, b1.out.alloc hs _⟩

set_option maxHeartbeats 400000 in
theorem new_long (A : Option Addr) (n c : Nat) (w : World) (hl : 65536 < n) (hl2 : n ≤ 10000000) :
    Calls Try.prog 8 #[.slice A n c] w fun e w' => e = .returned (.tuple #[.pointer none, .int .i64 15]) ∧ w = w' := by
  go_enter Try.func8, Try.ntmps8
  go_wp2_with fail
  go_ret2
  exact ⟨rfl, rfl⟩

set_option maxHeartbeats 400000 in
theorem left_any (g f : Nat) (fr to at_ : Int) (w : World) (hc : Hid (CU w g f fr to at_)) (h1 : 0 ≤ at_) (h2 : at_ ≤ to) (h3 : to ≤ 1000000) :
    Calls Try.prog 10 #[.pointer (some ⟨g, 0, none⟩)] w fun e w' => e = .returned (.int .i64 (to - at_)) ∧ ∃ n, w' = w.drewN n := by
  have c2 := cell_blk hc.out.blk 2
  have c3 := cell_blk hc.out.blk 3
  simp at c2 c3
  go_enter Try.func10, Try.ntmps10
  go_wp2_with fail
  go_quiet (fail)
  go_wp2_with fail
  go_ret
  exact ⟨rfl, _, rfl⟩

set_option maxHeartbeats 400000 in
theorem at_any (g f : Nat) (fr to at_ : Int) (w : World) (hc : Hid (CU w g f fr to at_)) :
    Calls Try.prog 15 #[.pointer (some ⟨g, 0, none⟩)] w fun e w' => e = .returned (.int .i64 at_) ∧ w = w' := by
  have c3 := cell_blk hc.out.blk 3
  simp at c3
  go_enter Try.func15, Try.ntmps15
  go_wp2_with fail
  go_ret
  exact ⟨rfl, rfl⟩

def CurPost (w : World) (f : Nat) (a b : Int) (e : Ending) (w' : World) : Prop :=
  ∃ g, e = .returned (.tuple #[.pointer (some ⟨g, 0, none⟩), .int .i64 0]) ∧ w.heap.size ≤ g ∧ Hid (CU w' g f a b a) ∧ Hid (Below w.heap.size w w')

set_option maxHeartbeats 400000 in
theorem cursor_any (f c : Nat) (A : Option Addr) (bs : List UInt8) (r fl a b : Int) (w : World) (hf : Hid (FL w f A c bs r fl)) (h1 : 0 ≤ a) (h2 : a ≤ b) (h3 : b ≤ (bs.length : Int)) :
    Calls Try.prog 9 #[.pointer (some ⟨f, 0, none⟩), .int .i64 a, .int .i64 b] w (CurPost w f a b) := by
  have c0 := cell_blk hf.out.blk 0
  simp at c0
  go_enter Try.func9, Try.ntmps9
  go_wp2_with fail
  go_ret2
  exact ⟨_, rfl, by simp, ⟨heap_alloc_new _ _, blk_lt hf.out.blk⟩, (Below.refl _ _).alloc (Nat.le_refl _) _⟩
end Go.Proofs.Ytiaigkpnhmgphaa
