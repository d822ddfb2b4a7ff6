/-
  flash: the flash and the cursor as they lie in memory; each function's contract.
  flash: reads, and a cursor that moves: contracts.
  flash: reads that fail; Take: contracts.
  flash: what a cursor can't take; a byte; a part: contracts.
  flash: how many reads; the laws' own example.
  flash: FlashParts: the law's walk.
  flash: reads by a cursor that fail; FailAt, Go, Byte: contracts.
  A number read byte by byte: what the first bytes tell; in plain Lean.
  flash: a number read by a cursor: contracts.
  flash: a cursor's Unsigned and Signed: contracts.
  flash: FlashFails: the law's walk.
-/
import Derived.Test.YtdhmkapknaphpaaBase
import Derived.Test.YtdhmkapknaphpaaRows
import Derived.Test.YtdhmkapknaphpaaLebE
import Derived.Test.YtdhmkapknaphpaaRegionR
import Derived.Test.YtdhmkapknaphpaaShelf
import Derived.Maps.RangeWalk
import Derived.Deep.QuietTactic
import Derived.BigQuiet
import Derived.Outline
import Derived.Deep.RegionHeld3
import Derived.Test.YtdhmkapknaphpaaWords
import Derived.Test.YtdhmkapknaphpaaArgs
import Derived.Test.YtdhmkapknaphpaaLebPure
namespace Go.Proofs.Ytdhmkapknaphpaa
open Go.RowKit
set_option linter.unusedVariables false

/-- bytes that a call has made: a slice of its own -/
def MadeB (w : World) (bs : List UInt8) (e : Ending) (w' : World) : Prop := ∃ A c, e = .returned (.slice A bs.length c) ∧ Hid (OwnB w' w.heap.size (.slice A bs.length c) bs) ∧ Hid (Below w.heap.size w w') ∧ Hid (bs.length ≤ c)
theorem MadeB.of {w w' : World} {v : Value} {bs bs' : List UInt8} (h : OwnB w' w.heap.size v bs') (he : bs' = bs) (hb : Below w.heap.size w w') : MadeB w bs (.returned v) w' := by
  subst he
  obtain ⟨A, c, rfl, h1, _⟩ := own_form h
  exact ⟨A, c, rfl, h, hb, h1⟩
/-- what the call owns stays while blocks from before it are written -/
theorem own_only {w w' : World} {base : Nat} {v : Value} {bs : List UInt8} {S : List Nat} (h : OwnB w base v bs) (ho : Only S w w') (hS : ∀ x, x ∈ S → x < base) : OwnB w' base v bs := by
  refine ⟨h.1, ?_⟩
  rcases h.2 with hn | ⟨g, cap, cur, rfl, hbg, hh, rest⟩
  · exact .inl hn
  · exact .inr ⟨g, cap, cur, rfl, hbg, (ho.block g (Array.getElem?_eq_some_iff.1 hh).1 (fun hx => by have := hS g hx; omega)).trans hh, rest⟩

theorem B_ints (bs : List UInt8) : (bs.map fun b => (b.toNat : Int)).map (Value.int .u8) = bs.map B := by rw [List.map_map]; rfl

theorem clone_any (A : Option Addr) (c Bk : Nat) (bs : List UInt8) (w : World) (hr : Hid (Reads w Bk 1 A bs.length (bs.map B))) (hl : bs.length ≤ 1000000) :
    Calls Try.prog 27 #[.slice A bs.length c] w (MadeB w bs) := by
  cases A with
  | none =>
    have h0 : bs.length = 0 := by
      rcases Nat.eq_zero_or_pos bs.length with h | h
      · exact h
      · obtain ⟨ad, h, _⟩ := hr.out.2 h; cases h
    have hn : bs = [] := List.eq_nil_of_length_eq_zero h0
    subst hn
    refine (Try.bytes_Clone_nil _ c w).mono ?_
    rintro e w' ⟨rfl, rfl⟩
    exact ⟨none, 0, rfl, own_nil _ _ _ _, Below.refl _ _, Nat.le_refl _⟩
  | some a =>
    refine (Try.bytes_Clone_at a bs.length c (bs.map fun b => (b.toNat : Int)) w (by simp) (by omega) (fun i hi => ?_)).mono ?_
    · obtain ⟨ad, b, h1, h2, h3, _, _⟩ := hr.out.byte hi
      injection h1 with h1
      subst h1
      rw [h3, List.getD_eq_getElem?_getD, List.getElem?_map, h2.out]
      rfl
    · rintro e w' ⟨v', rfl, ho, _, hb⟩
      rw [B_ints] at ho
      exact MadeB.of (own_cast ho (by simp) rfl) rfl hb

/-- a flash: its bytes, how many reads there were, from which one on it fails -/
structure FL (w : World) (f : Nat) (A : Option Addr) (c : Nat) (bs : List UInt8) (reads fail : Int) : Prop where
  blk : w.heap[f]? = some (.cells #[.slice A bs.length c, .int .i64 reads, .int .i64 fail] 91 (0, 0))
  row : Reads w f 1 A bs.length (bs.map B)
  cap : bs.length ≤ c

/-- a cursor -/
structure CU (w : World) (g f : Nat) (fr to at_ : Int) : Prop where
  blk : w.heap[g]? = some (.cells #[.pointer (some ⟨f, 0, none⟩), .int .i64 fr, .int .i64 to, .int .i64 at_] 95 (0, 0))
  lt : f < g

theorem FL.keep {w w' : World} {f c : Nat} {A : Option Addr} {bs : List UInt8} {r fl : Int} {S : List Nat} (h : FL w f A c bs r fl) (ho : Only S w w') (hf : f ∉ S) (hS : ∀ x, x ∈ S → f ≤ x) : FL w' f A c bs r fl :=
  ⟨(ho.block f (blk_lt h.blk) hf).trans h.blk, h.row.below (ho.below (Nat.le_of_lt (blk_lt h.blk)) hS), h.cap⟩
theorem FL.below {w w' : World} {f c : Nat} {A : Option Addr} {bs : List UInt8} {r fl : Int} {Bk : Nat} (h : FL w f A c bs r fl) (hb : Below Bk w w') (hf : f < Bk) : FL w' f A c bs r fl :=
  ⟨(hb.block f hf).trans h.blk, h.row.below (hb.mono (Nat.le_of_lt hf)), h.cap⟩
theorem CU.keep {w w' : World} {g f : Nat} {a b d : Int} {S : List Nat} (h : CU w g f a b d) (ho : Only S w w') (hg : g ∉ S) : CU w' g f a b d := ⟨(ho.block g (blk_lt h.blk) hg).trans h.blk, h.lt⟩
theorem CU.below {w w' : World} {g f : Nat} {a b d : Int} {Bk : Nat} (h : CU w g f a b d) (hb : Below Bk w w') (hg : g < Bk) : CU w' g f a b d := ⟨(hb.block g hg).trans h.blk, h.lt⟩

def NewPost (w : World) (bs : List UInt8) (e : Ending) (w' : World) : Prop :=
  ∃ f A c, e = .returned (.tuple #[.pointer (some ⟨f, 0, none⟩), .int .i64 0]) ∧ w.heap.size ≤ f ∧ Hid (FL w' f A c bs 0 (-1)) ∧ Hid (Below w.heap.size w w')

set_option maxHeartbeats 400000 in
theorem new_any (A : Option Addr) (c Bk : Nat) (bs : List UInt8) (w : World) (hr : Hid (Reads w Bk 1 A bs.length (bs.map B))) (hl : bs.length ≤ 65536) :
    Calls Try.prog 13 #[.slice A bs.length c] w (NewPost w bs) := by
  go_enter Try.func13, Try.ntmps13
  go_wp2_with fail
  refine (clone_any A c Bk bs w hr (by omega)).mono ?_; rintro e w1 ⟨A1, c1, rfl, r1, b1, k1⟩
  go_wp2_with fail
  go_ret2
  have hs := b1.out.size
  exact ⟨w1.heap.size, A1, c1, rfl, hs, ⟨heap_alloc_new w1 _, (Reads.of_own r1.out).alloc (Nat.le_refl _) _, k1.out⟩, b1.out.alloc hs _⟩

set_option maxHeartbeats 400000 in
theorem new_long (A : Option Addr) (n c : Nat) (w : World) (hl : 65536 < n) (hl2 : n ≤ 10000000) :
    Calls Try.prog 13 #[.slice A n c] w fun e w' => e = .returned (.tuple #[.pointer none, .int .i64 15]) ∧ w = w' := by
  go_enter Try.func13, Try.ntmps13
  go_wp2_with fail
  go_ret2
  exact ⟨rfl, rfl⟩

set_option maxHeartbeats 400000 in
theorem left_any (g f : Nat) (fr to at_ : Int) (w : World) (hc : Hid (CU w g f fr to at_)) (h1 : 0 ≤ at_) (h2 : at_ ≤ to) (h3 : to ≤ 1000000) :
    Calls Try.prog 33 #[.pointer (some ⟨g, 0, none⟩)] w fun e w' => e = .returned (.int .i64 (to - at_)) ∧ ∃ n, w' = w.drewN n := by
  have c2 := cell_blk hc.out.blk 2
  have c3 := cell_blk hc.out.blk 3
  simp at c2 c3
  go_enter Try.func33, Try.ntmps33
  go_wp2_with fail
  go_quiet (fail)
  go_wp2_with fail
  go_ret
  exact ⟨rfl, _, rfl⟩

set_option maxHeartbeats 400000 in
theorem at_any (g f : Nat) (fr to at_ : Int) (w : World) (hc : Hid (CU w g f fr to at_)) :
    Calls Try.prog 48 #[.pointer (some ⟨g, 0, none⟩)] w fun e w' => e = .returned (.int .i64 at_) ∧ w = w' := by
  have c3 := cell_blk hc.out.blk 3
  simp at c3
  go_enter Try.func48, Try.ntmps48
  go_wp2_with fail
  go_ret
  exact ⟨rfl, rfl⟩

def CurPost (w : World) (f : Nat) (a b : Int) (e : Ending) (w' : World) : Prop :=
  ∃ g, e = .returned (.tuple #[.pointer (some ⟨g, 0, none⟩), .int .i64 0]) ∧ w.heap.size ≤ g ∧ Hid (CU w' g f a b a) ∧ Hid (Below w.heap.size w w')

set_option maxHeartbeats 400000 in
theorem cursor_any (f c : Nat) (A : Option Addr) (bs : List UInt8) (r fl a b : Int) (w : World) (hf : Hid (FL w f A c bs r fl)) (h1 : 0 ≤ a) (h2 : a ≤ b) (h3 : b ≤ (bs.length : Int)) :
    Calls Try.prog 14 #[.pointer (some ⟨f, 0, none⟩), .int .i64 a, .int .i64 b] w (CurPost w f a b) := by
  have c0 := cell_blk hf.out.blk 0
  simp at c0
  go_enter Try.func14, Try.ntmps14
  go_wp2_with fail
  go_ret2
  exact ⟨_, rfl, by simp, ⟨heap_alloc_new _ _, blk_lt hf.out.blk⟩, (Below.refl _ _).alloc (Nat.le_refl _) _⟩
end Go.Proofs.Ytdhmkapknaphpaa

namespace Go.Proofs.Ytdhmkapknaphpaa
open Go.RowKit
set_option linter.unusedVariables false

theorem FL.bump {w : World} {f c : Nat} {A : Option Addr} {bs : List UInt8} {r fl : Int} (h : FL w f A c bs r fl) (r' : Int) : FL (w.setCell ⟨f, 1, none⟩ (.int .i64 r')) f A c bs r' fl :=
  ⟨by rw [setCell_blk h.blk]; rfl, h.row.setCell (p := ⟨f, 1, none⟩) (Nat.le_refl _) _, h.cap⟩
theorem FL.failAt {w : World} {f c : Nat} {A : Option Addr} {bs : List UInt8} {r fl : Int} (h : FL w f A c bs r fl) (n : Int) : FL (w.setCell ⟨f, 2, none⟩ (.int .i64 n)) f A c bs r n :=
  ⟨by rw [setCell_blk h.blk]; rfl, h.row.setCell (p := ⟨f, 2, none⟩) (Nat.le_refl _) _, h.cap⟩
theorem CU.move {w : World} {g f : Nat} {a b d : Int} (h : CU w g f a b d) (d' : Int) : CU (w.setCell ⟨g, 3, none⟩ (.int .i64 d')) g f a b d' := ⟨by rw [setCell_blk h.blk]; rfl, h.lt⟩

set_option maxHeartbeats 400000 in
theorem add_any (f c : Nat) (A : Option Addr) (bs : List UInt8) (r fl : Int) (w : World) (hf : Hid (FL w f A c bs r fl)) (h1 : 0 ≤ r) (h2 : r ≤ 1000000) :
    Calls Try.prog 90 #[.pointer (some ⟨f, 1, none⟩), .int .i64 1] w fun e w' => e = .returned (.int .i64 (r + 1)) ∧ w' = w.setCell ⟨f, 1, none⟩ (.int .i64 (r + 1)) := by
  have c1 := cell_blk hf.out.blk 1
  simp at c1
  have z1 := frozen_blk hf.out.blk 1
  have hadd := run_call_add (P := Try.prog) Try.func97 (by kernel_rfl) (by kernel_rfl) (by kernel_rfl) .i64 (by kernel_rfl) (y := 1) (s := r + 1) c1 z1 (by
    simp [Op.intArith, IntKind.wrap_i64]
    omega)
  go_enter Try.func90, Try.ntmps90
  go_wp2_with fail
  go_ret
  exact ⟨rfl, rfl⟩

/-- what a part of the bytes is -/
def partB (bs : List UInt8) (a n : Int) : List UInt8 := (bs.drop a.toNat).take n.toNat
theorem part_len (bs : List UInt8) (a n : Int) (h1 : 0 ≤ a) (h2 : 0 ≤ n) (h3 : a + n ≤ (bs.length : Int)) : ((partB bs a n).length : Int) = n := by
  unfold partB; rw [List.length_take, List.length_drop]; omega

theorem FL.part {w : World} {f c : Nat} {A : Option Addr} {bs : List UInt8} {r fl : Int} (h : FL w f A c bs r fl) (a n : Nat) (ha : a < c) (hn : a + n ≤ bs.length) :
    Reads w f 1 (Option.map (fun x => x.add a) A) (partB bs a n).length ((partB bs a n).map B) := by
  have h1 := h.row.cut (k := a) (cap := c) (by omega) h.cap
  rw [if_neg (by omega)] at h1
  have h2 := h1.upto (k := n) (by omega)
  rw [Nat.mul_one, Nat.mul_one] at h2
  have hl : (partB bs a n).length = n := by have := part_len bs a n (by omega) (by omega) (by omega); omega
  rw [hl]
  unfold partB
  rw [List.map_take, List.map_drop]
  exact h2

def BytesPost (w : World) (f c : Nat) (A : Option Addr) (bs : List UInt8) (r fl : Int) (out : List UInt8) (e : Ending) (w' : World) : Prop :=
  ∃ A1 c1, e = .returned (.tuple #[.slice A1 out.length c1, .int .i64 0]) ∧ Hid (OwnB w' w.heap.size (.slice A1 out.length c1) out) ∧ Hid (FL w' f A c bs (r + 1) fl) ∧ Hid (Only [f] w w')

set_option maxHeartbeats 800000 in
set_option maxRecDepth 100000 in
theorem bytes_ok (f c : Nat) (A : Option Addr) (bs : List UInt8) (r fl a n : Int) (w : World) (hf : Hid (FL w f A c bs r fl)) (hr1 : 0 ≤ r) (hr2 : r ≤ 1000000) (hl : bs.length ≤ 65536)
    (h1 : 0 ≤ a) (h2 : 0 ≤ n) (h3 : a + n ≤ (bs.length : Int)) (h4 : fl < 0 ∨ r < fl) :
    Calls Try.prog 83 #[.pointer (some ⟨f, 0, none⟩), .int .i64 a, .int .i64 n] w (BytesPost w f c A bs r fl (partB bs a n)) := by
  have c0 := cell_blk hf.out.blk 0
  simp at c0
  have hf1 := hide (hf.out.bump (r + 1))
  have d0 := cell_blk hf1.out.blk 0
  have d2 := cell_blk hf1.out.blk 2
  simp at d0 d2
  have hcap := hf.out.cap
  have e1 : (bs.length : Int) ≤ (c : Int) := by omega
  have hadd := add_any f c A bs r fl w hf hr1 hr2
  have HA := hide hadd; clear hadd
  obtain ⟨an, rfl⟩ : ∃ x : Nat, a = x := ⟨a.toNat, by omega⟩
  obtain ⟨nn, rfl⟩ : ∃ x : Nat, n = x := ⟨n.toNat, by omega⟩
  have hlen : Hid ((partB bs an nn).length = nn) := by show _ = _; have := part_len bs an nn h1 h2 h3; omega
  by_cases han : an < c
  · have hrd := hide (hf1.out.part an nn han (by omega))
    rcases h4 with h4 | h4
    all_goals
      go_enter Try.func83, Try.ntmps83
      go_wp2_with fail
      refine HA.out.mono ?_; rintro e w1 ⟨rfl, rfl⟩
      go_wp2_with fail
      have hcl := clone_any (Option.map (fun x => x.add an) A) (c - an) f (partB bs an nn) _ hrd (by have := hlen.out; omega)
      rw [hlen.out] at hcl
      refine hcl.mono ?_; rintro e w1 ⟨A1, c1, rfl, r1, b1, k1⟩
      clear hcl
      go_wp2_with fail
      go_ret2
      exact ⟨A1, c1, rfl, own_base r1.out (fun g hg => by have := own_ge r1.out g hg; simpa using this), hf1.out.below b1.out (by have := blk_lt hf1.out.blk; simpa using this), (Only.setCell (S := [f]) w (p := ⟨f, 1, none⟩) (by simp) _).trans (Only.of_below b1.out)⟩
  · have hn0 : nn = 0 := by omega
    subst hn0
    have hac : an = c := by omega
    subst hac
    have hnil : Hid (partB bs an 0 = []) := by show _ = _; unfold partB; simp
    rcases h4 with h4 | h4
    all_goals
      go_enter Try.func83, Try.ntmps83
      go_wp2_with fail
      refine HA.out.mono ?_; rintro e w1 ⟨rfl, rfl⟩
      go_wp2_with fail
      refine (clone_any A _ f [] _ Reads.none_ (by simp)).mono ?_; rintro e w1 ⟨A1, c1, rfl, r1, b1, k1⟩
      go_wp2_with fail
      go_ret2
      rw [show (((0 : Nat) : Int)) = 0 from rfl, hnil.out]
      exact ⟨A1, c1, rfl, own_base r1.out (fun g hg => by have := own_ge r1.out g hg; simpa using this), hf1.out.below b1.out (by have := blk_lt hf1.out.blk; simpa using this), (Only.setCell (S := [f]) w (p := ⟨f, 1, none⟩) (by simp) _).trans (Only.of_below b1.out)⟩
end Go.Proofs.Ytdhmkapknaphpaa

namespace Go.Proofs.Ytdhmkapknaphpaa
open Go.RowKit
set_option linter.unusedVariables false

def FaultPost (w : World) (f c : Nat) (A : Option Addr) (bs : List UInt8) (r fl : Int) (e : Ending) (w' : World) : Prop :=
  e = .returned (.tuple #[.slice none 0 0, .int .i64 9]) ∧ Hid (FL w' f A c bs (r + 1) fl) ∧ Hid (Only [f] w w')

set_option maxHeartbeats 800000 in
set_option maxRecDepth 100000 in
theorem bytes_fault (f c : Nat) (A : Option Addr) (bs : List UInt8) (r fl a n : Int) (w : World) (hf : Hid (FL w f A c bs r fl)) (hr1 : 0 ≤ r) (hr2 : r ≤ 1000000) (hl : bs.length ≤ 65536)
    (h1 : 0 ≤ a) (h2 : 0 ≤ n) (h3 : a + n ≤ (bs.length : Int)) (h4 : 0 ≤ fl) (h5 : fl ≤ r) :
    Calls Try.prog 83 #[.pointer (some ⟨f, 0, none⟩), .int .i64 a, .int .i64 n] w (FaultPost w f c A bs r fl) := by
  have c0 := cell_blk hf.out.blk 0
  simp at c0
  have hf1 := hide (hf.out.bump (r + 1))
  have d2 := cell_blk hf1.out.blk 2
  simp at d2
  have hadd := add_any f c A bs r fl w hf hr1 hr2
  have HA := hide hadd; clear hadd
  go_enter Try.func83, Try.ntmps83
  go_wp2_with fail
  refine HA.out.mono ?_; rintro e w1 ⟨rfl, rfl⟩
  go_wp2_with fail
  go_ret2
  exact ⟨rfl, hf1, Only.setCell (S := [f]) w (p := ⟨f, 1, none⟩) (by simp) _⟩

set_option maxHeartbeats 800000 in
set_option maxRecDepth 100000 in
theorem read_of (f c : Nat) (a n : Int) (w : World) (R : Ending → World → Prop)
    (h : Calls Try.prog 83 #[.pointer (some ⟨f, 0, none⟩), .int .i64 a, .int .i64 n] (w.alloc (.cells #[.pointer (some ⟨f, 0, none⟩)] 93)) (fun e w' => ∃ u v, e = .returned (.tuple #[u, v]) ∧ R (.returned (.tuple #[u, v])) w')) :
    Calls Try.prog 77 #[.agg #[.pointer (some ⟨f, 0, none⟩)], .int .i64 a, .int .i64 n] w R := by
  have H := hide h; clear h
  go_enter Try.func77, Try.ntmps77
  go_wp2_with fail
  refine H.out.mono ?_; rintro e w1 ⟨u, v, rfl, hR⟩
  have HR := hide hR; clear hR
  go_wp2_with fail
  exact HR.out

theorem read_ok (f c : Nat) (A : Option Addr) (bs : List UInt8) (r fl a n : Int) (w : World) (hf : Hid (FL w f A c bs r fl)) (hr1 : 0 ≤ r) (hr2 : r ≤ 1000000) (hl : bs.length ≤ 65536)
    (h1 : 0 ≤ a) (h2 : 0 ≤ n) (h3 : a + n ≤ (bs.length : Int)) (h4 : fl < 0 ∨ r < fl) :
    Calls Try.prog 77 #[.agg #[.pointer (some ⟨f, 0, none⟩)], .int .i64 a, .int .i64 n] w (BytesPost w f c A bs r fl (partB bs a n)) := by
  refine read_of f c a n w _ ?_
  have ho := Only.alloc [] w (.cells #[.pointer (some ⟨f, 0, none⟩)] 93)
  refine (bytes_ok f c A bs r fl a n _ (hf.out.keep ho (by simp) (by simp)) hr1 hr2 hl h1 h2 h3 h4).mono ?_
  rintro e w' ⟨A1, c1, rfl, k1, k2, k3⟩
  exact ⟨_, _, rfl, A1, c1, rfl, own_base k1.out (fun g hg => by have := own_ge k1.out g hg; simp at this; omega), k2, (Only.alloc [f] w _).trans k3.out⟩
theorem read_fault (f c : Nat) (A : Option Addr) (bs : List UInt8) (r fl a n : Int) (w : World) (hf : Hid (FL w f A c bs r fl)) (hr1 : 0 ≤ r) (hr2 : r ≤ 1000000) (hl : bs.length ≤ 65536)
    (h1 : 0 ≤ a) (h2 : 0 ≤ n) (h3 : a + n ≤ (bs.length : Int)) (h4 : 0 ≤ fl) (h5 : fl ≤ r) :
    Calls Try.prog 77 #[.agg #[.pointer (some ⟨f, 0, none⟩)], .int .i64 a, .int .i64 n] w (FaultPost w f c A bs r fl) := by
  refine read_of f c a n w _ ?_
  have ho := Only.alloc [] w (.cells #[.pointer (some ⟨f, 0, none⟩)] 93)
  refine (bytes_fault f c A bs r fl a n _ (hf.out.keep ho (by simp) (by simp)) hr1 hr2 hl h1 h2 h3 h4 h5).mono ?_
  rintro e w' ⟨rfl, k2, k3⟩
  exact ⟨_, _, rfl, rfl, k2, (Only.alloc [f] w _).trans k3.out⟩

/-- why so many bytes can't be taken -/
def wrongL (n left : Int) : Int := if n < 0 then 1 else if left < n then 3 else 0

set_option maxHeartbeats 400000 in
theorem wrong_any (g f : Nat) (fr to at_ n : Int) (w : World) (hc : Hid (CU w g f fr to at_)) (h1 : 0 ≤ at_) (h2 : at_ ≤ to) (h3 : to ≤ 1000000) :
    Calls Try.prog 76 #[.pointer (some ⟨g, 0, none⟩), .int .i64 n] w fun e w' => e = .returned (.int .i64 (wrongL n (to - at_))) ∧ ∃ n, w' = w.drewN n := by
  by_cases hn : n < 0
  · have hw : Hid (wrongL n (to - at_) = 1) := by show _ = _; unfold wrongL; rw [if_pos hn]
    go_enter Try.func76, Try.ntmps76
    go_wp2_with fail
    go_ret
    exact ⟨by rw [hw.out]; rfl, 0, rfl⟩
  · by_cases hl : to - at_ < n
    · have hw : Hid (wrongL n (to - at_) = 3) := by show _ = _; unfold wrongL; rw [if_neg hn, if_pos hl]
      go_enter Try.func76, Try.ntmps76
      go_wp2_with fail
      refine (left_any g f fr to at_ w hc h1 h2 h3).mono ?_; rintro e w' ⟨rfl, d, rfl⟩
      go_wp2_with fail
      go_ret
      exact ⟨by rw [hw.out]; rfl, d, rfl⟩
    · have hw : Hid (wrongL n (to - at_) = 0) := by show _ = _; unfold wrongL; rw [if_neg hn, if_neg hl]
      go_enter Try.func76, Try.ntmps76
      go_wp2_with fail
      refine (left_any g f fr to at_ w hc h1 h2 h3).mono ?_; rintro e w' ⟨rfl, d, rfl⟩
      go_wp2_with fail
      go_ret
      exact ⟨by rw [hw.out]; rfl, d, rfl⟩

/-- what a cursor's Take leaves: the bytes; the flash has been read once more; the cursor stands behind them -/
def TakePost (w : World) (g f c : Nat) (A : Option Addr) (bs : List UInt8) (r fl fr to at_ n : Int) (e : Ending) (w' : World) : Prop :=
  ∃ A1 c1, e = .returned (.tuple #[.slice A1 (partB bs at_ n).length c1, .int .i64 0]) ∧ Hid (OwnB w' w.heap.size (.slice A1 (partB bs at_ n).length c1) (partB bs at_ n)) ∧ Hid (FL w' f A c bs (r + 1) fl) ∧ Hid (CU w' g f fr to (at_ + n)) ∧ Hid (Only [f, g] w w')

theorem cu_ne {w : World} {g f : Nat} {a b d : Int} (hc : CU w g f a b d) : g ≠ f := by have := hc.lt; omega

set_option maxHeartbeats 800000 in
set_option maxRecDepth 100000 in
theorem take_ok (g f c : Nat) (A : Option Addr) (bs : List UInt8) (r fl fr to at_ n : Int) (w : World) (hf : Hid (FL w f A c bs r fl)) (hc : Hid (CU w g f fr to at_)) (hr1 : 0 ≤ r) (hr2 : r ≤ 1000000) (hl : bs.length ≤ 65536)
    (h1 : 0 ≤ at_) (h2 : 0 ≤ n) (h3 : n ≤ to - at_) (h4 : to ≤ (bs.length : Int)) (h5 : fl < 0 ∨ r < fl) :
    Calls Try.prog 62 #[.pointer (some ⟨g, 0, none⟩), .int .i64 n] w (TakePost w g f c A bs r fl fr to at_ n) := by
  have hw : wrongL n (to - at_) = 0 := by unfold wrongL; rw [if_neg (by omega), if_neg (by omega)]
  have hwr := wrong_any g f fr to at_ n w hc h1 (by omega) (by omega)
  rw [hw] at hwr
  have HW := hide hwr; clear hwr hw
  have hne := cu_ne hc.out
  have HNE := hide hne; clear hne
  go_enter Try.func62, Try.ntmps62
  go_wp2_with fail
  refine HW.out.mono ?_; rintro e w1 ⟨rfl, d, rfl⟩
  obtain ⟨w1, hw1⟩ : ∃ w1, w.drewN d = w1 := ⟨_, rfl⟩
  have hf1 : Hid (FL w1 f A c bs r fl) := by rw [← hw1]; exact ⟨hf.out.blk, hf.out.row.drewN d, hf.out.cap⟩
  have hc1 : Hid (CU w1 g f fr to at_) := by rw [← hw1]; exact ⟨hc.out.blk, hc.out.lt⟩
  have ho1 : Hid (Only [f, g] w w1) := by rw [← hw1]; exact ⟨rfl, rfl, rfl, Nat.le_refl _, fun _ _ _ => rfl⟩
  rw [hw1]
  clear hw1
  have c0 := cell_blk hc1.out.blk 0
  have c3 := cell_blk hc1.out.blk 3
  simp at c0 c3
  have hfd : Hid (FL w1.drew f A c bs r fl) := ⟨hf1.out.blk, hf1.out.row.drew, hf1.out.cap⟩
  go_wp2_with fail
  go_region_held3 (fun W => W.cell? ⟨g, 0, none⟩ = some (.pointer (some ⟨f, 0, none⟩)) ∧ W.cell? ⟨g, 3, none⟩ = some (.int .i64 at_))
    (first | exact ⟨c0, c3⟩ | exact ⟨d0, d3⟩)
    ((first | (go_at_call 77; refine (read_ok f c A bs r fl at_ n _ hfd hr1 hr2 hl h1 h2 (by omega) h5).mono ?_; rintro e w2 ⟨A1, c1, rfl, k1, k2, k3⟩; have hc2 := hide (hc1.out.keep ((Only.drew [f] w1).trans k3.out) (by simpa using HNE.out)); have d0 := cell_blk hc2.out.blk 0; have d3 := cell_blk hc2.out.blk 3; simp at d0 d3)))
  have z3 := frozen_blk hc2.out.blk 3
  have hb1 : at_ + n ≤ 1000000 := by omega
  go_wp2_with fail
  go_ret2
  have hlt := blk_lt hc1.out.blk
  have hsz := ho1.out.size
  have hs : Only [g] w2 (w2.setCell ⟨g, 3, none⟩ (.int .i64 (at_ + n))) := Only.setCell w2 (p := ⟨g, 3, none⟩) (by simp) _
  have hg := blk_lt hc.out.blk
  have hfg := hc.out.lt
  have o2 := own_only k1.out hs (by simp; omega)
  refine ⟨A1, c1, rfl, own_base o2 (fun x hx => by have := own_ge o2 x hx; simp at this; omega), k2.out.keep hs (by simpa using Ne.symm HNE.out) (by simp; omega), hc2.out.move _, ?_⟩
  exact ho1.out.trans ((Only.drew [f, g] w1).trans ((k3.out.more (by simp)).trans (hs.more (by simp))))
end Go.Proofs.Ytdhmkapknaphpaa

namespace Go.Proofs.Ytdhmkapknaphpaa
open Go.RowKit
set_option linter.unusedVariables false

set_option maxHeartbeats 800000 in
set_option maxRecDepth 100000 in
theorem take_wrong (g f : Nat) (fr to at_ n : Int) (w : World) (hc : Hid (CU w g f fr to at_)) (h1 : 0 ≤ at_) (h2 : at_ ≤ to) (h4 : to ≤ 1000000) (h3 : n < 0 ∨ to - at_ < n) :
    Calls Try.prog 62 #[.pointer (some ⟨g, 0, none⟩), .int .i64 n] w fun e w' => e = .returned (.tuple #[.slice none 0 0, .int .i64 (wrongL n (to - at_))]) ∧ ∃ n, w' = w.drewN n := by
  have hwr := wrong_any g f fr to at_ n w hc h1 h2 h4
  obtain ⟨x, hx⟩ : ∃ x, wrongL n (to - at_) = x := ⟨_, rfl⟩
  have hx0 : 0 < x := by
    rw [← hx]; unfold wrongL; split
    · omega
    · rw [if_pos (by omega)]; omega
  rw [hx] at hwr ⊢
  have HW := hide hwr; clear hwr hx h3
  go_enter Try.func62, Try.ntmps62
  go_wp2_with fail
  refine HW.out.mono ?_; rintro e w1 ⟨rfl, d, rfl⟩
  go_wp2_with fail
  go_ret2
  exact ⟨rfl, d, rfl⟩

def BytePost (w : World) (g f c : Nat) (A : Option Addr) (bs : List UInt8) (r fl fr to at_ : Int) (b : UInt8) (e : Ending) (w' : World) : Prop :=
  e = .returned (.tuple #[.int .u8 b.toNat, .int .i64 0]) ∧ Hid (FL w' f A c bs (r + 1) fl) ∧ Hid (CU w' g f fr to (at_ + 1)) ∧ Hid (Only [f, g] w w')

theorem partB_one (bs : List UInt8) (a : Int) (b : UInt8) (h0 : 0 ≤ a) (h : bs[a.toNat]? = some b) : partB bs a 1 = [b] := by
  obtain ⟨hk, hv⟩ := List.getElem?_eq_some_iff.1 h
  unfold partB
  rw [List.drop_eq_getElem_cons hk, hv]
  rfl

set_option maxHeartbeats 800000 in
set_option maxRecDepth 100000 in
theorem byte_ok (g f c : Nat) (A : Option Addr) (bs : List UInt8) (r fl fr to at_ : Int) (b : UInt8) (w : World) (hf : Hid (FL w f A c bs r fl)) (hc : Hid (CU w g f fr to at_)) (hr1 : 0 ≤ r) (hr2 : r ≤ 1000000) (hl : bs.length ≤ 65536)
    (h1 : 0 ≤ at_) (h3 : at_ < to) (h4 : to ≤ (bs.length : Int)) (h5 : fl < 0 ∨ r < fl) (hb : Hid (bs[at_.toNat]? = some b)) :
    Calls Try.prog 52 #[.pointer (some ⟨g, 0, none⟩)] w (BytePost w g f c A bs r fl fr to at_ b) := by
  have ht := take_ok g f c A bs r fl fr to at_ 1 w hf hc hr1 hr2 hl h1 (by omega) (by omega) h4 h5
  have HT := hide ht; clear ht h5
  go_enter Try.func52, Try.ntmps52
  go_wp2_with fail
  refine HT.out.mono ?_; rintro e w1 ⟨A1, c1, rfl, k1, k2, k3, k4⟩
  have hp := partB_one bs at_ b h1 hb.out
  rw [hp] at k1 ⊢
  clear hp
  obtain ⟨ad, x, rfl, hx, hcell, _, _⟩ := (Reads.of_own k1.out).byte (k := 0) (by simp)
  have hxb : x = b := by have := hx.out; simp at this; exact this.symm
  subst hxb
  simp only [List.length_cons, List.length_nil, Nat.zero_add]
  rw [show ad.add 0 = ad from by simp [Addr.add]] at hcell
  go_wp2_with fail
  go_ret2
  exact ⟨rfl, k2, k3, k4⟩

set_option maxHeartbeats 800000 in
theorem byte_short (g f : Nat) (fr to : Int) (w : World) (hc : Hid (CU w g f fr to to)) (h1 : 0 ≤ to) (h4 : to ≤ 1000000) :
    Calls Try.prog 52 #[.pointer (some ⟨g, 0, none⟩)] w fun e w' => e = .returned (.tuple #[.int .u8 0, .int .i64 3]) ∧ ∃ n, w' = w.drewN n := by
  have ht := take_wrong g f fr to to 1 w hc h1 (by omega) h4 (.inr (by omega))
  have hw : wrongL 1 (to - to) = 3 := by unfold wrongL; rw [if_neg (by omega), if_pos (by omega)]
  rw [hw] at ht
  have HT := hide ht; clear ht hw
  go_enter Try.func52, Try.ntmps52
  go_wp2_with fail
  refine HT.out.mono ?_; rintro e w1 ⟨rfl, d, rfl⟩
  go_wp2_with fail
  go_ret2
  exact ⟨rfl, d, rfl⟩

def PartPost (w : World) (g f : Nat) (fr to at_ n : Int) (e : Ending) (w' : World) : Prop :=
  ∃ p, e = .returned (.tuple #[.pointer (some ⟨p, 0, none⟩), .int .i64 0]) ∧ w.heap.size ≤ p ∧ Hid (CU w' p f at_ (at_ + n) at_) ∧ Hid (CU w' g f fr to (at_ + n)) ∧ Hid (Only [g] w w')

end Go.Proofs.Ytdhmkapknaphpaa

namespace Go.Proofs.Ytdhmkapknaphpaa
open Go.RowKit
set_option linter.unusedVariables false

def ex3 : List UInt8 := [1, 2, 3]

end Go.Proofs.Ytdhmkapknaphpaa

namespace Go.Proofs.Ytdhmkapknaphpaa
open Go.RowKit
set_option linter.unusedVariables false

theorem own_only2 {w w' : World} {base : Nat} {v : Value} {bs : List UInt8} {S : List Nat} (h : OwnB w base v bs) (ho : Only S w w') (hS : ∀ g, v.ownBlock = some g → g ∉ S) : OwnB w' base v bs := by
  refine ⟨h.1, ?_⟩
  rcases h.2 with hn | ⟨g, cap, cur, rfl, hbg, hh, rest⟩
  · exact .inl hn
  · exact .inr ⟨g, cap, cur, rfl, hbg, (ho.block g (Array.getElem?_eq_some_iff.1 hh).1 (hS g rfl)).trans hh, rest⟩
theorem left_o (g f : Nat) (fr to at_ : Int) (w : World) (hc : Hid (CU w g f fr to at_)) (h1 : 0 ≤ at_) (h2 : at_ ≤ to) (h3 : to ≤ 1000000) :
    Calls Try.prog 33 #[.pointer (some ⟨g, 0, none⟩)] w fun e w' => e = .returned (.int .i64 (to - at_)) ∧ Hid (Only [] w w') := by
  refine (left_any g f fr to at_ w hc h1 h2 h3).mono ?_
  rintro e w' ⟨rfl, d, rfl⟩
  exact ⟨rfl, Only.drewN _ _ _⟩
theorem byte_short_o (g f : Nat) (fr to : Int) (w : World) (hc : Hid (CU w g f fr to to)) (h1 : 0 ≤ to) (h4 : to ≤ 1000000) :
    Calls Try.prog 52 #[.pointer (some ⟨g, 0, none⟩)] w fun e w' => e = .returned (.tuple #[.int .u8 0, .int .i64 3]) ∧ Hid (Only [] w w') := by
  refine (byte_short g f fr to w hc h1 h4).mono ?_
  rintro e w' ⟨rfl, d, rfl⟩
  exact ⟨rfl, Only.drewN _ _ _⟩

/-- a flash and a cursor in it, in a world that has them made since w0 -/
structure FC (w0 w : World) (f g c base : Nat) (A : Option Addr) (bs : List UInt8) (r fl fr to at_ : Int) : Prop where
  fl_ : FL w f A c bs r fl
  cu : CU w g f fr to at_
  bel : Below w0.heap.size w0 w
  lo : w0.heap.size ≤ f
  hi : g < base
  sz : base ≤ w.heap.size
theorem FC.only {w0 w w' : World} {f g c base : Nat} {A : Option Addr} {bs : List UInt8} {r fl fr to at_ r' at' : Int} (h : FC w0 w f g c base A bs r fl fr to at_) {S : List Nat} (ho : Only S w w') (hf : FL w' f A c bs r' fl) (hc : CU w' g f fr to at') (hS : ∀ x, x ∈ S → f ≤ x) : FC w0 w' f g c base A bs r' fl fr to at' :=
  ⟨hf, hc, h.bel.trans (ho.below h.bel.size fun x hx => Nat.le_trans h.lo (hS x hx)), h.lo, h.hi, Nat.le_trans h.sz ho.size⟩
theorem FC.quiet {w0 w w' : World} {f g c base : Nat} {A : Option Addr} {bs : List UInt8} {r fl fr to at_ : Int} (h : FC w0 w f g c base A bs r fl fr to at_) (ho : Only [] w w') : FC w0 w' f g c base A bs r fl fr to at_ :=
  h.only ho (h.fl_.keep ho (by simp) (by simp)) (h.cu.keep ho (by simp)) (by simp)
theorem FC.below {w0 w w' : World} {f g c base : Nat} {A : Option Addr} {bs : List UInt8} {r fl fr to at_ : Int} (h : FC w0 w f g c base A bs r fl fr to at_) (ho : Below base w w') : FC w0 w' f g c base A bs r fl fr to at_ :=
  have h1 := h.cu.lt
  have h2 := h.hi
  have h3 := h.lo
  ⟨h.fl_.below ho (by omega), h.cu.below ho h.hi, h.bel.trans (ho.mono (by omega)), h.lo, h.hi, Nat.le_trans h.sz ho.size⟩

theorem take_part (bs : List UInt8) (a n : Int) (h1 : 0 ≤ a) (h2 : 0 ≤ n) : bs.take a.toNat ++ partB bs a n = bs.take (a + n).toNat := by
  unfold partB
  rw [show (a + n).toNat = a.toNat + n.toNat from by omega, List.take_add]

end Go.Proofs.Ytdhmkapknaphpaa

namespace Go.Proofs.Ytdhmkapknaphpaa
open Go.RowKit
set_option linter.unusedVariables false

/-- what a cursor's read that fails leaves: the flash has been read once more -/
def FailPost (w : World) (g f c : Nat) (A : Option Addr) (bs : List UInt8) (r fl fr to at_ : Int) (out : Value) (e : Ending) (w' : World) : Prop :=
  e = .returned (.tuple #[out, .int .i64 9]) ∧ Hid (FL w' f A c bs (r + 1) fl) ∧ Hid (CU w' g f fr to at_) ∧ Hid (Only [f] w w')

set_option maxHeartbeats 800000 in
set_option maxRecDepth 100000 in
theorem take_fault (g f c : Nat) (A : Option Addr) (bs : List UInt8) (r fl fr to at_ n : Int) (w : World) (hf : Hid (FL w f A c bs r fl)) (hc : Hid (CU w g f fr to at_)) (hr1 : 0 ≤ r) (hr2 : r ≤ 1000000) (hl : bs.length ≤ 65536)
    (h1 : 0 ≤ at_) (h2 : 0 ≤ n) (h3 : n ≤ to - at_) (h4 : to ≤ (bs.length : Int)) (h5 : 0 ≤ fl) (h6 : fl ≤ r) :
    Calls Try.prog 62 #[.pointer (some ⟨g, 0, none⟩), .int .i64 n] w (FailPost w g f c A bs r fl fr to at_ (.slice none 0 0)) := by
  have hw : wrongL n (to - at_) = 0 := by unfold wrongL; rw [if_neg (by omega), if_neg (by omega)]
  have hwr := wrong_any g f fr to at_ n w hc h1 (by omega) (by omega)
  rw [hw] at hwr
  have HW := hide hwr; clear hwr hw
  have hne := cu_ne hc.out
  have HNE := hide hne; clear hne
  go_enter Try.func62, Try.ntmps62
  go_wp2_with fail
  refine HW.out.mono ?_; rintro e w1 ⟨rfl, d, rfl⟩
  obtain ⟨w1, hw1⟩ : ∃ w1, w.drewN d = w1 := ⟨_, rfl⟩
  have hf1 : Hid (FL w1 f A c bs r fl) := by rw [← hw1]; exact ⟨hf.out.blk, hf.out.row.drewN d, hf.out.cap⟩
  have hc1 : Hid (CU w1 g f fr to at_) := by rw [← hw1]; exact ⟨hc.out.blk, hc.out.lt⟩
  have ho1 : Hid (Only [f] w w1) := by rw [← hw1]; exact ⟨rfl, rfl, rfl, Nat.le_refl _, fun _ _ _ => rfl⟩
  rw [hw1]
  clear hw1
  have c0 := cell_blk hc1.out.blk 0
  have c3 := cell_blk hc1.out.blk 3
  simp at c0 c3
  have hfd : Hid (FL w1.drew f A c bs r fl) := ⟨hf1.out.blk, hf1.out.row.drew, hf1.out.cap⟩
  go_wp2_with fail
  go_region_held3 (fun W => W.cell? ⟨g, 0, none⟩ = some (.pointer (some ⟨f, 0, none⟩)) ∧ W.cell? ⟨g, 3, none⟩ = some (.int .i64 at_))
    (first | exact ⟨c0, c3⟩ | exact ⟨d0, d3⟩)
    ((first | (go_at_call 77; refine (read_fault f c A bs r fl at_ n _ hfd hr1 hr2 hl h1 h2 (by omega) h5 h6).mono ?_; rintro e w2 ⟨rfl, k2, k3⟩; have hc2 := hide (hc1.out.keep ((Only.drew [f] w1).trans k3.out) (by simpa using HNE.out)); have d0 := cell_blk hc2.out.blk 0; have d3 := cell_blk hc2.out.blk 3; simp at d0 d3)))
  go_wp2_with fail
  go_ret2
  exact ⟨rfl, k2, hc2, ho1.out.trans ((Only.drew [f] w1).trans k3.out)⟩

set_option maxHeartbeats 400000 in
theorem byte_fault (g f c : Nat) (A : Option Addr) (bs : List UInt8) (r fl fr to at_ : Int) (w : World) (hf : Hid (FL w f A c bs r fl)) (hc : Hid (CU w g f fr to at_)) (hr1 : 0 ≤ r) (hr2 : r ≤ 1000000) (hl : bs.length ≤ 65536)
    (h1 : 0 ≤ at_) (h3 : at_ < to) (h4 : to ≤ (bs.length : Int)) (h5 : 0 ≤ fl) (h6 : fl ≤ r) :
    Calls Try.prog 52 #[.pointer (some ⟨g, 0, none⟩)] w (FailPost w g f c A bs r fl fr to at_ (.int .u8 0)) := by
  have ht := take_fault g f c A bs r fl fr to at_ 1 w hf hc hr1 hr2 hl h1 (by omega) (by omega) h4 h5 h6
  have HT := hide ht; clear ht
  go_enter Try.func52, Try.ntmps52
  go_wp2_with fail
  refine HT.out.mono ?_; rintro e w1 ⟨rfl, k2, k3, k4⟩
  go_wp2_with fail
  go_ret2
  exact ⟨rfl, k2, k3, k4⟩

set_option maxHeartbeats 400000 in
theorem bytes_range (f c : Nat) (A : Option Addr) (bs : List UInt8) (r fl a n : Int) (w : World) (hf : Hid (FL w f A c bs r fl)) (hl : bs.length ≤ 65536)
    (h1 : 0 ≤ a) (h2 : 0 ≤ n) (h3 : a ≤ bs.length) (h4 : (bs.length : Int) - a < n) :
    Calls Try.prog 83 #[.pointer (some ⟨f, 0, none⟩), .int .i64 a, .int .i64 n] w fun e w' => e = .returned (.tuple #[.slice none 0 0, .int .i64 2]) ∧ Hid (Only [f] w w') := by
  have c0 := cell_blk hf.out.blk 0
  simp at c0
  go_enter Try.func83, Try.ntmps83
  go_wp2_with fail
  go_ret2
  exact ⟨rfl, ⟨rfl, rfl, rfl, Nat.le_refl _, fun _ _ _ => rfl⟩⟩

def goL (n fr to : Int) : Bool := decide (fr ≤ n) && decide (n ≤ to)
set_option maxHeartbeats 400000 in
theorem go_ok (g f : Nat) (fr to at_ n : Int) (w : World) (hc : Hid (CU w g f fr to at_)) (h1 : fr ≤ n) (h2 : n ≤ to) :
    Calls Try.prog 57 #[.pointer (some ⟨g, 0, none⟩), .int .i64 n] w fun e w' => e = .returned (.int .i64 0) ∧ Hid (CU w' g f fr to n) ∧ Hid (Only [g] w w') := by
  have c1 := cell_blk hc.out.blk 1
  have c2 := cell_blk hc.out.blk 2
  have c3 := cell_blk hc.out.blk 3
  simp at c1 c2 c3
  have z3 := frozen_blk hc.out.blk 3
  go_enter Try.func57, Try.ntmps57
  go_wp2_with fail
  go_ret
  exact ⟨rfl, hc.out.move n, Only.setCell (S := [g]) w (p := ⟨g, 3, none⟩) (by simp) _⟩
set_option maxHeartbeats 400000 in
theorem go_no (g f : Nat) (fr to at_ n : Int) (w : World) (hc : Hid (CU w g f fr to at_)) (h1 : n < fr ∨ to < n) :
    Calls Try.prog 57 #[.pointer (some ⟨g, 0, none⟩), .int .i64 n] w fun e w' => e = .returned (.int .i64 2) ∧ w = w' := by
  have c1 := cell_blk hc.out.blk 1
  have c2 := cell_blk hc.out.blk 2
  simp at c1 c2
  by_cases hn : n < fr
  · clear h1
    go_enter Try.func57, Try.ntmps57
    go_wp2_with fail
    go_ret
    exact ⟨rfl, rfl⟩
  · have h2 : to < n := by omega
    clear h1
    go_enter Try.func57, Try.ntmps57
    go_wp2_with fail
    go_ret
    exact ⟨rfl, rfl⟩
set_option maxHeartbeats 400000 in
theorem cursor_no (f c : Nat) (A : Option Addr) (bs : List UInt8) (r fl a b : Int) (w : World) (hf : Hid (FL w f A c bs r fl)) (h1 : a < 0 ∨ b < a ∨ (bs.length : Int) < b) :
    Calls Try.prog 14 #[.pointer (some ⟨f, 0, none⟩), .int .i64 a, .int .i64 b] w fun e w' => e = .returned (.tuple #[.pointer none, .int .i64 2]) ∧ w = w' := by
  have c0 := cell_blk hf.out.blk 0
  simp at c0
  by_cases h2 : a < 0
  · clear h1
    go_enter Try.func14, Try.ntmps14
    go_wp2_with fail
    go_ret2
    exact ⟨rfl, rfl⟩
  · by_cases h3 : b < a
    · clear h1
      go_enter Try.func14, Try.ntmps14
      go_wp2_with fail
      go_ret2
      exact ⟨rfl, rfl⟩
    · have h4 : (bs.length : Int) < b := by omega
      clear h1
      go_enter Try.func14, Try.ntmps14
      go_wp2_with fail
      go_ret2
      exact ⟨rfl, rfl⟩
end Go.Proofs.Ytdhmkapknaphpaa

namespace Go.Proofs.Ytdhmkapknaphpaa

theorem rawGo_prefix (cnt : Nat) : ∀ (l : List UInt8) (k i acc : Nat), (rawGo cnt (l.take k) i acc).2.2.2 ≠ 3 → rawGo cnt l i acc = rawGo cnt (l.take k) i acc := by
  intro l
  induction l with
  | nil => intro k i acc h; simp
  | cons c r ih =>
    intro k i acc h
    cases k with
    | zero => simp [rawGo] at h
    | succ k =>
      rw [List.take_succ_cons] at h ⊢
      unfold rawGo at h ⊢
      split
      · rfl
      · rename_i h1
        rw [if_neg h1] at h
        split
        · rfl
        · rename_i h2
          rw [if_neg h2] at h
          exact ih k _ _ h
/-- where it ends well, the bytes that it has taken end well -/
theorem rawGo_self (cnt : Nat) : ∀ (l : List UInt8) (i acc : Nat), (rawGo cnt l i acc).2.2.2 = 0 → (rawGo cnt l i acc).2.1 - i ≤ l.length ∧ i + 1 ≤ (rawGo cnt l i acc).2.1 ∧ rawGo cnt (l.take ((rawGo cnt l i acc).2.1 - i)) i acc = rawGo cnt l i acc := by
  intro l
  induction l with
  | nil => intro i acc h; simp [rawGo] at h
  | cons c r ih =>
    intro i acc h
    by_cases h1 : i + 1 = cnt ∧ 128 ≤ c.toNat
    · rw [rawGo, if_pos h1] at h; simp at h
    · by_cases h2 : c.toNat < 128
      · have e : rawGo cnt (c :: r) i acc = (acc ||| (c.toNat % 128 * 2 ^ (7 * i) % 2 ^ 64), i + 1, c.toNat, 0) := by rw [rawGo, if_neg h1, if_pos h2]
        rw [e]
        refine ⟨by simp, Nat.le_refl _, ?_⟩
        show rawGo cnt ((c :: r).take (i + 1 - i)) i acc = _
        rw [show i + 1 - i = 0 + 1 from by omega, List.take_succ_cons, rawGo, if_neg h1, if_pos h2]
      · have e : ∀ r', rawGo cnt (c :: r') i acc = rawGo cnt r' (i + 1) (acc ||| (c.toNat % 128 * 2 ^ (7 * i) % 2 ^ 64)) := fun r' => by rw [rawGo, if_neg h1, if_neg h2]
        rw [e] at h ⊢
        obtain ⟨a, b, d⟩ := ih _ _ h
        refine ⟨by rw [List.length_cons]; omega, by omega, ?_⟩
        obtain ⟨m, hm⟩ : ∃ m, (rawGo cnt r (i + 1) (acc ||| (c.toNat % 128 * 2 ^ (7 * i) % 2 ^ 64))).2.1 - i = m + 1 := ⟨(rawGo cnt r (i + 1) (acc ||| (c.toNat % 128 * 2 ^ (7 * i) % 2 ^ 64))).2.1 - i - 1, by omega⟩
        rw [hm, List.take_succ_cons, e]
        rw [show (rawGo cnt r (i + 1) (acc ||| (c.toNat % 128 * 2 ^ (7 * i) % 2 ^ 64))).2.1 - (i + 1) = m from by omega] at d
        exact d
theorem rawGo_ten (cnt : Nat) : ∀ (l : List UInt8) (i acc : Nat), i < cnt → cnt ≤ i + l.length → (rawGo cnt l i acc).2.2.2 ≠ 3 := by
  intro l
  induction l with
  | nil => intro i acc h h2; simp at h2; omega
  | cons c r ih =>
    intro i acc h h2
    unfold rawGo
    split
    · simp
    · split
      · simp
      · rename_i h1 h3
        exact ih _ _ (by have : i + 1 ≠ cnt := fun e => h1 ⟨e, by omega⟩; omega) (by rw [List.length_cons] at h2; omega)

theorem rawL_prefix (l : List UInt8) (k : Nat) (n : Int) (h : (rawL (l.take k) n).2.2.2 ≠ 3) : rawL l n = rawL (l.take k) n := by
  unfold rawL at h ⊢
  split
  · rfl
  · rename_i h1
    rw [if_neg h1] at h
    exact rawGo_prefix _ _ _ _ _ h
theorem rawL_self (l : List UInt8) (n : Int) (h : (rawL l n).2.2.2 = 0) : (rawL l n).2.1 ≤ l.length ∧ 1 ≤ (rawL l n).2.1 ∧ rawL (l.take (rawL l n).2.1) n = rawL l n := by
  unfold rawL at h ⊢
  split
  · rename_i h1; rw [if_pos h1] at h; simp at h
  · rename_i h1
    rw [if_neg h1] at h
    exact rawGo_self _ _ _ _ h
theorem rawL_ten (l : List UInt8) (n : Int) (h : 10 ≤ l.length) : (rawL l n).2.2.2 ≠ 3 := by
  unfold rawL
  split
  · simp
  · exact rawGo_ten _ _ _ _ (by unfold cntN; omega) (by unfold cntN; omega)

/-- how a number is read out of bytes: what it answers (of whatever kind), how many bytes it has, the error -/
structure IsNum {V : Type} (res : List UInt8 → V × Nat × Nat) : Prop where
  pre : ∀ l k, (res (l.take k)).2.2 ≠ 3 → res l = res (l.take k)
  self : ∀ l, (res l).2.2 = 0 → (res l).2.1 ≤ l.length ∧ 1 ≤ (res l).2.1 ∧ res (l.take (res l).2.1) = res l
  ten : ∀ l : List UInt8, 10 ≤ l.length → (res l).2.2 ≠ 3
  none_ : ∀ l, (res l).2.2 ≠ 0 → (res l).2.1 = 0
  le : ∀ l, (res l).2.2 ≤ 4

theorem unsignedL_form (l : List UInt8) (n : Int) : ((rawL l n).2.2.2 ≠ 0 ∧ unsignedL l n = (0, 0, (rawL l n).2.2.2)) ∨ ((rawL l n).2.2.2 = 0 ∧ (unsignedL l n = (0, 0, 4) ∨ ∃ o, unsignedL l n = (o, (rawL l n).2.1, 0))) := by
  unfold unsignedL
  simp only
  split
  · rename_i h; exact .inl ⟨h, rfl⟩
  · rename_i h
    refine .inr ⟨by omega, ?_⟩
    split
    · exact .inl rfl
    · exact .inr ⟨_, rfl⟩
theorem signedL_form (l : List UInt8) (n : Int) : ((rawL l n).2.2.2 ≠ 0 ∧ signedL l n = (0, 0, (rawL l n).2.2.2)) ∨ ((rawL l n).2.2.2 = 0 ∧ (signedL l n = (0, 0, 4) ∨ ∃ o, signedL l n = (o, (rawL l n).2.1, 0))) := by
  unfold signedL
  by_cases h : (rawL l n).2.2.2 = 0
  · refine .inr ⟨h, ?_⟩
    simp only [h, ne_eq, not_true_eq_false, if_false]
    generalize extendL (rawL l n).1 (min (7 * (rawL l n).2.1) n.toNat) = out
    generalize beyondL (rawL l n).2.2.1 (rawL l n).2.1 n.toNat = y
    by_cases hc : 0 < y.2 ∧ ¬ y.1 = (if out < 0 then 2 ^ y.2 - 1 else 0)
    · rw [if_pos hc]; exact .inl rfl
    · rw [if_neg hc]; exact .inr ⟨_, rfl⟩
  · refine .inl ⟨h, ?_⟩
    simp only [ne_eq, h, not_false_eq_true, if_true]
theorem unsignedL_of (l l' : List UInt8) (n : Int) (h : rawL l n = rawL l' n) : unsignedL l n = unsignedL l' n := by unfold unsignedL; rw [h]
theorem signedL_of (l l' : List UInt8) (n : Int) (h : rawL l n = rawL l' n) : signedL l n = signedL l' n := by unfold signedL; rw [h]
theorem rawL_le (l : List UInt8) (n : Int) : (rawL l n).2.2.2 ≤ 4 := by
  rcases rawL_cases l n with ⟨v, s, c, h, _⟩ | ⟨e, h, he⟩
  · rw [h]; show 0 ≤ 4; omega
  · rw [h]; show e ≤ 4; omega
theorem num_of {V : Type} (n : Int) (z : V) (res : List UInt8 → V × Nat × Nat)
    (hf : ∀ l, ((rawL l n).2.2.2 ≠ 0 ∧ res l = (z, 0, (rawL l n).2.2.2)) ∨ ((rawL l n).2.2.2 = 0 ∧ (res l = (z, 0, 4) ∨ ∃ o, res l = (o, (rawL l n).2.1, 0))))
    (ho : ∀ l l', rawL l n = rawL l' n → res l = res l') : IsNum res where
  pre := fun l k h => ho _ _ (rawL_prefix l k n fun hh => h (by
    rcases hf (l.take k) with ⟨a, b⟩ | ⟨a, _⟩
    · rw [b]; exact hh
    · omega))
  self := fun l h => by
    rcases hf l with ⟨a, b⟩ | ⟨a, b | ⟨o, b⟩⟩
    · rw [b] at h; exact absurd h a
    · rw [b] at h; cases h
    · obtain ⟨c, d, e⟩ := rawL_self l n a
      have e' := ho _ _ e
      rw [b] at e' ⊢
      exact ⟨c, d, e'⟩
  ten := fun l h hh => rawL_ten l n h (by
    rcases hf l with ⟨a, b⟩ | ⟨a, b | ⟨o, b⟩⟩
    · rw [b] at hh; exact hh
    · rw [b] at hh; cases hh
    · rw [b] at hh; cases hh)
  none_ := fun l h => by
    rcases hf l with ⟨a, b⟩ | ⟨a, b | ⟨o, b⟩⟩
    · rw [b]
    · rw [b]
    · rw [b] at h; exact absurd rfl h
  le := fun l => by
    rcases hf l with ⟨a, b⟩ | ⟨a, b | ⟨o, b⟩⟩
    · rw [b]; exact rawL_le l n
    · rw [b]; exact Nat.le_refl _
    · rw [b]; exact Nat.zero_le _
theorem unsigned_num (n : Int) : IsNum (fun l => unsignedL l n) := num_of n 0 _ (fun l => unsignedL_form l n) (fun l l' h => unsignedL_of l l' n h)
theorem signed_num (n : Int) : IsNum (fun l => signedL l n) := num_of n 0 _ (fun l => signedL_form l n) (fun l l' h => signedL_of l l' n h)

/-- the read ends at k bytes: what all bytes tell is what these do -/
theorem IsNum.done {V : Type} {res : List UInt8 → V × Nat × Nat} (h : IsNum res) {l : List UInt8} {k : Nat} (hk : k ≤ l.length) (hbef : ∀ j, j < k → (res (l.take j)).2.2 = 3) (he : (res (l.take k)).2.2 ≠ 3) :
    res l = res (l.take k) ∧ ((res l).2.2 = 0 → (res l).2.1 = k) := by
  have e := h.pre l k he
  refine ⟨e, fun h0 => ?_⟩
  obtain ⟨a, b, c⟩ := h.self (l.take k) (by rw [← e]; exact h0)
  rw [List.length_take] at a
  rw [e]
  rw [e] at h0
  apply Decidable.byContradiction
  intro hne
  have := hbef (res (l.take k)).2.1 (by omega)
  rw [List.take_take, Nat.min_eq_left (by omega)] at c
  rw [c, h0] at this
  cases this
end Go.Proofs.Ytdhmkapknaphpaa

namespace Go.Proofs.Ytdhmkapknaphpaa
open Go.RowKit
set_option linter.unusedVariables false

theorem partB_get (bs : List UInt8) (a n : Int) (k : Nat) (h0 : 0 ≤ a) (hk : (k : Int) < n) : (partB bs a n)[k]? = bs[(a + k).toNat]? := by
  unfold partB
  rw [List.getElem?_take, if_pos (by omega), List.getElem?_drop]
  congr 1
  omega
theorem take_one (l : List UInt8) (k : Nat) (b : UInt8) (h : l[k]? = some b) : l.take k ++ [b] = l.take (k + 1) := by
  obtain ⟨hk, hv⟩ := List.getElem?_eq_some_iff.1 h
  rw [List.take_succ_eq_append_getElem hk, hv]


/-- a function that tells of bytes whether they are a number, and lays it into the block y -/
def IsFn (F : FuncId) (x y : Nat) (o : Obj) (T : TypeId) (base : Nat) (V : Type) (val : V → Value) (res : List UInt8 → V × Nat × Nat) : Prop :=
  ∀ (A : Option Addr) (c : Nat) (l : List UInt8) (u : Value) (w : World), l.length ≤ 1000 → Hid (Reads w w.heap.size 1 A l.length (l.map B)) → w.heap[x]? = some o → w.heap[y]? = some (.cells #[u] T (0, 0)) →
    Calls Try.prog F #[.slice A l.length c, .pointer (some ⟨x, 0, none⟩), .pointer (some ⟨y, 0, none⟩)] w fun e w' => e = .returned (.int .i64 (res l).2.2) ∧ w' = w.setCell ⟨y, 0, none⟩ (val (res l).1)

/-- what a number's read leaves -/
structure NumPost (w : World) (g f c y : Nat) (T : TypeId) (A : Option Addr) (bs : List UInt8) (r fl fr to at_ : Int) {V : Type} (val : V → Value) (v : V) (k e0 : Nat) (e : Ending) (w' : World) : Prop where
  out : ∃ (e' r' d : Int) (v' : Value), e = .returned (.int .i64 e') ∧ Hid (FL w' f A c bs r' fl) ∧ Hid (CU w' g f fr to (at_ + d)) ∧ Hid (Only [f, g, y] w w') ∧ r ≤ r' ∧ r' ≤ r + 11 ∧ w'.heap[y]? = some (.cells #[v'] T (0, 0)) ∧
    ((e' = e0 ∧ d = k ∧ (e0 = 0 → v' = val v)) ∨ (e' = 9 ∧ d = 0 ∧ 0 ≤ fl ∧ fl < r'))

/-- the state in the middle of a number's read -/
structure NumMid (w w1 : World) (g f c x y base : Nat) (o : Obj) (T : TypeId) (A : Option Addr) (bs : List UInt8) (r fl fr to at_ : Int) {V : Type} (val : V → Value) (res : List UInt8 → V × Nat × Nat) (l : List UInt8) (k : Nat) (v1 : Value) : Prop where
  fl_ : FL w1 f A c bs (r + k) fl
  cu : CU w1 g f fr to (at_ + k)
  only : Only [f, g, y] w w1
  bx : w1.heap[x]? = some o
  by_ : w1.heap[y]? = some (.cells #[val (res (l.take k)).1] T (0, 0))
  own : OwnB w1 base v1 (l.take k)
  bef : ∀ j, j < k → (res (l.take j)).2.2 = 3

set_option maxHeartbeats 3200000 in
set_option maxRecDepth 100000 in
theorem number_any (F : FuncId) (g f c x y : Nat) (o : Obj) (T : TypeId) (A : Option Addr) (bs : List UInt8) (r fl fr to at_ : Int) {V : Type} (val : V → Value) (res : List UInt8 → V × Nat × Nat) (hres : IsNum res) (w : World) (u : Value)
    (hcf : ∀ (args : Array Value) (W : World), (callFunc F args).run Try.prog W = .ok (.enter F args) W) (hF : IsFn F x y o T w.heap.size V val res)
    (hf : Hid (FL w f A c bs r fl)) (hc : Hid (CU w g f fr to at_)) (hr1 : 0 ≤ r) (hr2 : r ≤ 900000) (hl : bs.length ≤ 1000)
    (h1 : 0 ≤ at_) (h2 : at_ ≤ to) (h4 : to ≤ (bs.length : Int)) (hgx : g < x) (hxy : x < y) (hx : Hid (w.heap[x]? = some o)) (hy : Hid (w.heap[y]? = some (.cells #[u] T (0, 0)))) :
    Calls Try.prog 49 #[.pointer (some ⟨g, 0, none⟩), .func (.func F) #[] #[.pointer (some ⟨x, 0, none⟩), .pointer (some ⟨y, 0, none⟩)]] w
      (NumPost w g f c y T A bs r fl fr to at_ val (res (partB bs at_ (to - at_))).1 (res (partB bs at_ (to - at_))).2.1 (res (partB bs at_ (to - at_))).2.2) := by
  obtain ⟨l, hlL⟩ : ∃ l, partB bs at_ (to - at_) = l := ⟨_, rfl⟩
  have hll : (l.length : Int) = to - at_ := by rw [← hlL]; exact part_len bs at_ (to - at_) h1 (by omega) (by omega)
  have hget : Hid (∀ k : Nat, (k : Int) < to - at_ → l[k]? = bs[(at_ + k).toNat]?) := by show ∀ _, _; intro k hk; rw [← hlL]; exact partB_get bs at_ (to - at_) k h1 hk
  rw [hlL]
  clear hlL
  have HLL := hide hll; clear hll
  obtain ⟨base, hbase⟩ : ∃ b, w.heap.size = b := ⟨_, rfl⟩
  rw [hbase] at hF
  have HF := hide hF; clear hF
  have hyb : y < base := by rw [← hbase]; exact blk_lt hy.out
  have hbw : base ≤ w.heap.size := by omega
  have HBS := hide hbase
  clear hbase
  have hfg := hc.out.lt
  have c3 := cell_blk hc.out.blk 3
  simp at c3
  go_enter Try.func49, Try.ntmps49
  go_wp2_with fail
  refine (HF.out none 0 [] u w (by simp) Reads.none_ hx.out hy.out).mono ?_; rintro e w1 ⟨rfl, hw1⟩
  have hm0 : Hid (NumMid w w1 g f c x y base o T A bs r fl fr to at_ val res l 0 (.slice none 0 0)) := by
    have hs : Only [y] w w1 := by rw [hw1]; exact Only.setCell w (p := ⟨y, 0, none⟩) (by simp) _
    refine ⟨by simpa using hf.out.keep hs (by simp; omega) (by simp; omega), by simpa using hc.out.keep hs (by simp; omega), hs.more (by simp), ?_, ?_, own_nil _ _ _ _, fun j hj => by omega⟩
    · exact (hs.block x (blk_lt hx.out) (by simp; omega)).trans hx.out
    · rw [hw1, setCell_blk hy.out]; rfl
  clear hw1 c3
  go_wp2_with fail
  go_loopw [6, 7] (fun v1 e w1 => ∃ k : Nat, k ≤ l.length ∧ e = .int .i64 (res (l.take k)).2.2 ∧ Hid (NumMid w w1 g f c x y base o T A bs r fl fr to at_ val res l k v1)) (fun v1 _ _ => match v1 with | .slice _ n _ => 20 - n | _ => 0)
  case atStart => exact ⟨0, by omega, rfl, hm0⟩
  case round =>
    obtain ⟨k, hk, rfl, hm⟩ := hrel
    obtain ⟨A1, c1, rfl, hc1, hc2⟩ := own_form hm.out.own
    have hlk : (l.take k).length = k := by rw [List.length_take]; omega
    rw [hlk] at hc1 hm ⊢
    have HLK := hide hlk; clear hlk
    obtain ⟨ev, hev⟩ : ∃ ev : Nat, (res (l.take k)).2.2 = ev := ⟨_, rfl⟩
    rw [hev]
    have hev4 : ev ≤ 4 := by rw [← hev]; exact hres.le _
    have hk10 : ev = 3 → k < 10 := by
      intro h3
      apply Decidable.byContradiction
      intro hn
      exact hres.ten (l.take k) (by rw [HLK.out]; omega) (by rw [hev]; exact h3)
    have HEV := hide hev; clear hev
    by_cases h3 : ev = 3
    · have hk10' := hk10 h3
      clear hk10
      subst h3
      have hroom : Room k 1 1 := room_of (by omega) (by omega)
      have hll := HLL.out
      by_cases hkl : k < l.length
      · obtain ⟨b, hb⟩ : ∃ b, l[k]? = some b := ⟨_, List.getElem?_eq_getElem hkl⟩
        have hb' : Hid (bs[(at_ + k).toNat]? = some b) := by show _ = _; rw [← hget.out k (by omega)]; exact hb
        have hHb := hide hb; clear hb
        by_cases hfl : fl < 0 ∨ r + k < fl
        · have HB := hide (byte_ok g f c A bs (r + k) fl fr to (at_ + k) b wr (hide hm.out.fl_) (hide hm.out.cu) (by omega) (by omega) (by omega) (by omega) (by omega) (by omega) hfl hb')
          clear hfl hll
          go_wp2_with fail
          refine HB.out.mono ?_; rintro e w2 ⟨rfl, k2, k3, k4⟩
          have hown2 := hide (own_cast (own_only2 hm.out.own k4.out (fun q hq => by have := own_ge hm.out.own q hq; simp; omega)) HLK.out rfl)
          have hb2 : base ≤ w2.heap.size := by have := k4.out.size; have := hm.out.only.size; omega
          go_wp2_with (at_builtin; refine wpList_push rfl _ _ rfl base u8_elem _ k ((l.take k).map B) rfl w2 _ _ rfl hown2.out rfl rfl hroom hb2 ?_; intro v' w3 ho3 hg3)
          rw [show (.int .u8 (b.toNat : Int) : Value) = B b from rfl, ← List.map_singleton, ← List.map_append, take_one _ _ _ hHb.out] at ho3
          have hlk1 : (l.take (k + 1)).length = k + 1 := by rw [List.length_take]; omega
          have ho3' : OwnB w3 base v' (l.take (k + 1)) := own_cast ho3 hlk1.symm rfl
          have HO3 := hide ho3'; clear ho3 ho3'
          obtain ⟨A3, c3, rfl, hc3, hc4⟩ := own_form HO3.out
          have HLK1 := hide hlk1; clear hlk1
          have hg3' := hide (hg3.below hb2 (fun q hq => own_ge hown2.out q hq)); clear hg3
          have hm2 : Hid (NumMid w w2 g f c x y base o T A bs (r + 1) fl fr to (at_ + 1) val res l k (.slice A1 k c1)) := by
            refine ⟨by have := k2.out; rwa [show r + k + 1 = r + 1 + k from by omega] at this, by have := k3.out; rwa [show at_ + k + 1 = at_ + 1 + k from by omega] at this, hm.out.only.trans (k4.out.more (by simp)), (k4.out.block x (blk_lt hm.out.bx) (by simp; omega)).trans hm.out.bx, (k4.out.block y (blk_lt hm.out.by_) (by simp; omega)).trans hm.out.by_, own_cast hown2.out HLK.out.symm rfl, hm.out.bef⟩
          have hx3 : w3.heap[x]? = some o := (hg3'.out.block x (by omega)).trans hm2.out.bx
          have hy3 := (hg3'.out.block y (by omega)).trans hm2.out.by_
          have hF3 := HF.out A3 c3 (l.take (k + 1)) _ w3 (by rw [HLK1.out]; omega) (Reads.of_own HO3.out) hx3 hy3
          rw [HLK1.out] at hF3 ⊢
          refine hF3.mono ?_; rintro e w4 ⟨rfl, hw4⟩
          clear hF3
          have hs : Only [y] w3 w4 := by rw [hw4]; exact Only.setCell w3 (p := ⟨y, 0, none⟩) (by simp) _
          have hm4 : Hid (NumMid w w4 g f c x y base o T A bs r fl fr to at_ val res l (k + 1) (.slice A3 (k + 1) c3)) := by
            refine ⟨?_, ?_, ?_, ?_, ?_, ?_, ?_⟩
            · have := (hm2.out.fl_.below hg3'.out (by omega)).keep hs (by simp; omega) (by simp; omega)
              rwa [show r + 1 + (k : Int) = r + ((k + 1 : Nat) : Int) from by omega] at this
            · have := (hm2.out.cu.below hg3'.out (by omega)).keep hs (by simp; omega)
              rwa [show at_ + 1 + (k : Int) = at_ + ((k + 1 : Nat) : Int) from by omega] at this
            · exact (hm2.out.only.then_below (by rw [HBS.out]; exact hg3'.out)).trans (hs.more (by simp))
            · exact (hs.block x (blk_lt hx3) (by simp; omega)).trans hx3
            · rw [hw4, setCell_blk hy3]; rfl
            · have := own_only HO3.out hs (by simp; omega)
              rwa [HLK1.out] at this
            · intro j hj
              by_cases hjk : j = k
              · subst hjk; exact HEV.out
              · exact hm.out.bef j (by omega)
          clear hs hw4 hx3 hy3
          go_wp2_with fail
          go_roundw
          case rel => exact ⟨k + 1, by omega, rfl, hm4⟩
          case measure => simp; omega
        · have hfl1 : 0 ≤ fl := by omega
          have hfl2 : fl ≤ r + k := by omega
          have HB := hide (byte_fault g f c A bs (r + k) fl fr to (at_ + k) wr (hide hm.out.fl_) (hide hm.out.cu) (by omega) (by omega) (by omega) (by omega) (by omega) (by omega) hfl1 hfl2)
          clear hfl hll
          go_wp2_with fail
          refine HB.out.mono ?_; rintro e w2 ⟨rfl, k2, k3, k4⟩
          have z3 := frozen_blk k3.out.blk 3
          have d3 := cell_blk k3.out.blk 3
          simp at d3
          go_wp2_with fail
          go_ret
          have hs : Only [g] w2 (w2.setCell ⟨g, 3, none⟩ (.int .i64 at_)) := Only.setCell w2 (p := ⟨g, 3, none⟩) (by simp) _
          have hy2 := (k4.out.block y (blk_lt hm.out.by_) (by simp; omega)).trans hm.out.by_
          exact ⟨9, r + k + 1, 0, _, rfl, k2.out.keep hs (by simp; omega) (by simp; omega), by have := k3.out.move at_; rwa [show at_ + 0 = at_ from by omega], (hm.out.only.trans (k4.out.more (by simp))).trans (hs.more (by simp)), by omega, by omega, (hs.block y (blk_lt hy2) (by simp; omega)).trans hy2, .inr ⟨rfl, rfl, by omega, by omega⟩⟩
      · have hkl' : k = l.length := by omega
        have hto : at_ + (k : Int) = to := by omega
        have HB := hide (byte_short_o g f fr to wr (by have := hm.out.cu; rwa [hto] at this) (by omega) (by omega))
        have HKL := hide hkl'; clear hkl hkl' hll
        have HTO := hide hto; clear hto
        go_wp2_with fail
        refine HB.out.mono ?_; rintro e w2 ⟨rfl, k4⟩
        have hc2' : Hid (CU w2 g f fr to (at_ + k)) := hm.out.cu.keep k4.out (by simp)
        have z3 := frozen_blk hc2'.out.blk 3
        have d3 := cell_blk hc2'.out.blk 3
        simp at d3
        go_wp2_with fail
        go_ret
        have hs : Only [g] w2 (w2.setCell ⟨g, 3, none⟩ (.int .i64 at_)) := Only.setCell w2 (p := ⟨g, 3, none⟩) (by simp) _
        have hy2 := (k4.out.block y (blk_lt hm.out.by_) (by simp)).trans hm.out.by_
        have hlt : l.take k = l := by rw [HKL.out, List.take_length]
        have hE := HEV.out
        rw [hlt] at hE
        refine ⟨3, r + k, 0, _, rfl, (hm.out.fl_.keep k4.out (by simp) (by simp)).keep hs (by simp; omega) (by simp; omega), by have := hc2'.out.move at_; rwa [show at_ + 0 = at_ from by omega], (hm.out.only.trans (k4.out.more (by simp))).trans (hs.more (by simp)), by omega, by omega, (hs.block y (blk_lt hy2) (by simp; omega)).trans hy2, .inl ⟨by rw [hE]; rfl, by rw [hres.none_ l (by rw [hE]; omega)]; rfl, fun h => ?_⟩⟩
        rw [hE] at h
        omega
    · clear hk10
      have hdone := hres.done hk hm.out.bef (by rw [HEV.out]; exact h3)
      obtain ⟨hd1, hd2⟩ := hdone
      have HD1 := hide hd1; clear hd1
      have hrr : r + (k : Int) ≤ r + 11 := by
        apply Decidable.byContradiction
        intro hn
        exact hres.ten (l.take 10) (by rw [List.length_take]; omega) (hm.out.bef 10 (by omega))
      by_cases h0 : ev = 0
      · subst h0
        have hd3 := hd2 (by rw [HD1.out, HEV.out])
        have HD3 := hide hd3; clear hd3 hd2
        go_wp2_with fail
        go_ret
        exact ⟨0, r + k, k, _, rfl, hm.out.fl_, hm.out.cu, hm.out.only, by omega, hrr, hm.out.by_, .inl ⟨by rw [HD1.out, HEV.out]; rfl, by rw [HD3.out], fun _ => by rw [HD1.out]⟩⟩
      · have z3 := frozen_blk hm.out.cu.blk 3
        have d3 := cell_blk hm.out.cu.blk 3
        simp at d3
        have hne0 : ((ev : Int) == 0) = false := by simp; omega
        have hne3 : ((ev : Int) == 3) = false := by simp; omega
        have hne0' : ((ev : Int) != 0) = true := by simp; omega
        clear hd2 h0 h3
        go_wp2_with fail
        go_ret
        have hs : Only [g] wr (wr.setCell ⟨g, 3, none⟩ (.int .i64 at_)) := Only.setCell wr (p := ⟨g, 3, none⟩) (by simp) _
        have hev0 : ev ≠ 0 := by intro h; subst h; simp at hne0
        exact ⟨ev, r + k, 0, _, rfl, hm.out.fl_.keep hs (by simp; omega) (by simp; omega), by have := hm.out.cu.move at_; rwa [show at_ + 0 = at_ from by omega], hm.out.only.trans (hs.more (by simp)), by omega, hrr, (hs.block y (blk_lt hm.out.by_) (by simp; omega)).trans hm.out.by_, .inl ⟨by rw [HD1.out, HEV.out], by rw [hres.none_ l (by rw [HD1.out, HEV.out]; exact hev0)]; rfl, fun h => by rw [HD1.out, HEV.out] at h; exact absurd h hev0⟩⟩
end Go.Proofs.Ytdhmkapknaphpaa

namespace Go.Proofs.Ytdhmkapknaphpaa
open Go.RowKit
set_option linter.unusedVariables false

theorem callF {P : Program} {F : FuncId} {fn : Func} (h1 : P.funcs[F]? = some fn) (h2 : (fn.name == "runtime.NumGoroutine") = false) (h3 : fn.body.isNone = false) (args : Array Value) (W : World) : (callFunc F args).run P W = .ok (.enter F args) W := by
  unfold callFunc
  have h2' : ¬ fn.name = "runtime.NumGoroutine" := by simpa using h2
  have h3' : ¬ fn.body = none := fun e => by rw [e] at h3; cases h3
  simp [h1, h2', h3']

set_option maxHeartbeats 800000 in
theorem fnU (x y base : Nat) (n : Int) (hxy : x < y) : IsFn 50 x y (.cells #[.int .i64 n] 3 (0, 0)) 24 base Nat (fun v => .int .u64 v) (fun l => unsignedL l n) := by
  intro A c l u w hl hr hx hy
  have cx := cell_blk hx 0
  have cy := cell_blk hy 0
  simp at cx cy
  have zy := frozen_blk hy 0
  clear hx hy
  obtain ⟨v, size, e, hR⟩ : ∃ v size e, Hid (unsignedL l n = (v, size, e)) := ⟨_, _, _, rfl⟩
  show Calls _ _ _ _ fun e w' => e = .returned (.int .i64 (unsignedL l n).2.2) ∧ w' = w.setCell ⟨y, 0, none⟩ (.int .u64 (unsignedL l n).1)
  rw [hR.out]
  go_enter Try.func50, Try.ntmps50
  go_wp2_with fail
  refine (unsigned_any A c l n w hr (by omega) v size e hR).mono ?_; rintro e w1 ⟨rfl, rfl⟩
  go_wp2_with fail
  go_ret
  exact ⟨rfl, rfl⟩

set_option maxHeartbeats 800000 in
theorem fnS (x y base : Nat) (n : Int) (hxy : x < y) : IsFn 95 x y (.cells #[.int .i64 n] 3 (0, 0)) 2 base Int (fun v => .int .i64 v) (fun l => signedL l n) := by
  intro A c l u w hl hr hx hy
  have cx := cell_blk hx 0
  have cy := cell_blk hy 0
  simp at cx cy
  have zy := frozen_blk hy 0
  clear hx hy
  obtain ⟨v, size, e, hR⟩ : ∃ v size e, Hid (signedL l n = (v, size, e)) := ⟨_, _, _, rfl⟩
  show Calls _ _ _ _ fun e w' => e = .returned (.int .i64 (signedL l n).2.2) ∧ w' = w.setCell ⟨y, 0, none⟩ (.int .i64 (signedL l n).1)
  rw [hR.out]
  go_enter Try.func95, Try.ntmps95
  go_wp2_with fail
  refine (signed_any A c l n w hr (by omega) v size e hR).mono ?_; rintro e w1 ⟨rfl, rfl⟩
  go_wp2_with fail
  go_ret
  exact ⟨rfl, rfl⟩

/-- what a cursor's number leaves: it answers, and stands behind it; or the flash has failed -/
structure IntPost (w : World) (g f c : Nat) (A : Option Addr) (bs : List UInt8) (r fl fr to at_ : Int) {V : Type} (val : V → Value) (z v : V) (k e0 : Nat) (e : Ending) (w' : World) : Prop where
  out : ∃ (e' r' d : Int) (v' : V), e = .returned (.tuple #[val v', .int .i64 e']) ∧ Hid (FL w' f A c bs r' fl) ∧ Hid (CU w' g f fr to (at_ + d)) ∧ Hid (Only [f, g] w w') ∧ r ≤ r' ∧ r' ≤ r + 11 ∧
    Hid ((e' = e0 ∧ d = k ∧ v' = v) ∨ (e' = 9 ∧ d = 0 ∧ v' = z ∧ 0 ≤ fl ∧ fl < r'))

set_option maxHeartbeats 1600000 in
set_option maxRecDepth 100000 in
theorem cur_unsigned (g f c : Nat) (A : Option Addr) (bs : List UInt8) (r fl fr to at_ n : Int) (w : World)
    (hf : Hid (FL w f A c bs r fl)) (hc : Hid (CU w g f fr to at_)) (hr1 : 0 ≤ r) (hr2 : r ≤ 900000) (hl : bs.length ≤ 1000)
    (h1 : 0 ≤ at_) (h2 : at_ ≤ to) (h4 : to ≤ (bs.length : Int)) :
    Calls Try.prog 29 #[.pointer (some ⟨g, 0, none⟩), .int .i64 n] w
      (IntPost w g f c A bs r fl fr to at_ (fun v : Nat => .int .u64 v) 0 (unsignedL (partB bs at_ (to - at_)) n).1 (unsignedL (partB bs at_ (to - at_)) n).2.1 (unsignedL (partB bs at_ (to - at_)) n).2.2) := by
  have hz : Hid ((unsignedL (partB bs at_ (to - at_)) n).2.2 ≠ 0 → (unsignedL (partB bs at_ (to - at_)) n).1 = 0) := by
    show _ → _
    intro h
    rcases unsignedL_form (partB bs at_ (to - at_)) n with ⟨a, b⟩ | ⟨a, b | ⟨o, b⟩⟩
    · rw [b]
    · rw [b]
    · rw [b] at h; exact absurd rfl h
  have hcf := callF (P := Try.prog) Try.func50 (by kernel_rfl) (by kernel_rfl)
  have HCF := hide hcf; clear hcf
  go_enter Try.func29, Try.ntmps29
  go_wp2_with fail
  have hfs := blk_lt hf.out.blk
  have hgs := blk_lt hc.out.blk
  have hb0 : Below w.heap.size w ((w.alloc (.cells #[.int .i64 n] 3)).alloc (.cells #[.int .u64 0] 24)) := ((Below.refl _ _).alloc (Nat.le_refl _) _).alloc (by simp) _
  have HX : Hid (((w.alloc (.cells #[.int .i64 n] 3)).alloc (.cells #[.int .u64 0] 24)).heap[w.heap.size]? = some (.cells #[.int .i64 n] 3 (0, 0))) := by
    show _ = _
    rw [Below.heap_alloc _ _ _ (by simp)]
    exact heap_alloc_new w _
  have HY : Hid (((w.alloc (.cells #[.int .i64 n] 3)).alloc (.cells #[.int .u64 0] 24)).heap[w.heap.size + 1]? = some (.cells #[.int .u64 0] 24 (0, 0))) := by
    show _ = _
    have := heap_alloc_new (w.alloc (.cells #[.int .i64 n] 3)) (.cells #[.int .u64 0] 24)
    simpa using this
  have HB0 := hide hb0; clear hb0
  have hnum := number_any 50 g f c w.heap.size (w.heap.size + 1) _ 24 A bs r fl fr to at_ (fun v : Nat => .int .u64 v) (fun l => unsignedL l n) (unsigned_num n) _ (.int .u64 0) HCF.out (fnU _ _ _ n (by omega)) (hide (hf.out.below HB0.out hfs)) (hide (hc.out.below HB0.out hgs)) hr1 hr2 hl h1 h2 h4 hgs (by omega) HX HY
  refine hnum.mono ?_; rintro e w1 ⟨e', r', d, v', rfl, k1, k2, k3, k4, k5, k6, k7⟩
  clear hnum
  have cy := cell_blk k6 0
  simp at cy
  have K6 := hide k6; clear k6
  have ho : Hid (Only [f, g] w w1) := by
    have h := k3.out
    have hb := HB0.out
    refine ⟨h.os.trans hb.os, h.tape.trans hb.tape, h.output.trans hb.output, Nat.le_trans hb.size h.size, fun i hi hn => (h.block i (Nat.lt_of_lt_of_le hi hb.size) ?_).trans (hb.block i hi)⟩
    simp at hn ⊢
    omega
  have K7 := hide k7; clear k7
  by_cases h0 : e' = 0
  · subst h0
    go_wp2_with fail
    go_ret2
    rcases K7.out with ⟨a, b, d'⟩ | ⟨a, _⟩
    · rw [d' (by omega)]
      exact ⟨0, r', d, _, rfl, k1, k2, ho, k4, k5, .inl ⟨a, b, rfl⟩⟩
    · omega
  · have hne : (e' != 0) = true := by simpa using h0
    have H0 := hide h0; clear h0
    go_wp2_with fail
    go_ret2
    rcases K7.out with ⟨a, b, d'⟩ | ⟨a, b, d', e''⟩
    · exact ⟨e', r', d, 0, rfl, k1, k2, ho, k4, k5, .inl ⟨a, b, (hz.out (by have := H0.out; omega)).symm⟩⟩
    · exact ⟨e', r', d, 0, rfl, k1, k2, ho, k4, k5, .inr ⟨a, b, rfl, d', e''⟩⟩

set_option maxHeartbeats 1600000 in
set_option maxRecDepth 100000 in
theorem cur_signed (g f c : Nat) (A : Option Addr) (bs : List UInt8) (r fl fr to at_ n : Int) (w : World)
    (hf : Hid (FL w f A c bs r fl)) (hc : Hid (CU w g f fr to at_)) (hr1 : 0 ≤ r) (hr2 : r ≤ 900000) (hl : bs.length ≤ 1000)
    (h1 : 0 ≤ at_) (h2 : at_ ≤ to) (h4 : to ≤ (bs.length : Int)) :
    Calls Try.prog 88 #[.pointer (some ⟨g, 0, none⟩), .int .i64 n] w
      (IntPost w g f c A bs r fl fr to at_ (fun v : Int => .int .i64 v) 0 (signedL (partB bs at_ (to - at_)) n).1 (signedL (partB bs at_ (to - at_)) n).2.1 (signedL (partB bs at_ (to - at_)) n).2.2) := by
  have hz : Hid ((signedL (partB bs at_ (to - at_)) n).2.2 ≠ 0 → (signedL (partB bs at_ (to - at_)) n).1 = 0) := by
    show _ → _
    intro h
    rcases signedL_form (partB bs at_ (to - at_)) n with ⟨a, b⟩ | ⟨a, b | ⟨o, b⟩⟩
    · rw [b]
    · rw [b]
    · rw [b] at h; exact absurd rfl h
  have hcf := callF (P := Try.prog) Try.func95 (by kernel_rfl) (by kernel_rfl)
  have HCF := hide hcf; clear hcf
  go_enter Try.func88, Try.ntmps88
  go_wp2_with fail
  have hfs := blk_lt hf.out.blk
  have hgs := blk_lt hc.out.blk
  have hb0 : Below w.heap.size w ((w.alloc (.cells #[.int .i64 n] 3)).alloc (.cells #[.int .i64 0] 2)) := ((Below.refl _ _).alloc (Nat.le_refl _) _).alloc (by simp) _
  have HX : Hid (((w.alloc (.cells #[.int .i64 n] 3)).alloc (.cells #[.int .i64 0] 2)).heap[w.heap.size]? = some (.cells #[.int .i64 n] 3 (0, 0))) := by
    show _ = _
    rw [Below.heap_alloc _ _ _ (by simp)]
    exact heap_alloc_new w _
  have HY : Hid (((w.alloc (.cells #[.int .i64 n] 3)).alloc (.cells #[.int .i64 0] 2)).heap[w.heap.size + 1]? = some (.cells #[.int .i64 0] 2 (0, 0))) := by
    show _ = _
    have := heap_alloc_new (w.alloc (.cells #[.int .i64 n] 3)) (.cells #[.int .i64 0] 2)
    simpa using this
  have HB0 := hide hb0; clear hb0
  have hnum := number_any 95 g f c w.heap.size (w.heap.size + 1) _ 2 A bs r fl fr to at_ (fun v : Int => .int .i64 v) (fun l => signedL l n) (signed_num n) _ (.int .i64 0) HCF.out (fnS _ _ _ n (by omega)) (hide (hf.out.below HB0.out hfs)) (hide (hc.out.below HB0.out hgs)) hr1 hr2 hl h1 h2 h4 hgs (by omega) HX HY
  refine hnum.mono ?_; rintro e w1 ⟨e', r', d, v', rfl, k1, k2, k3, k4, k5, k6, k7⟩
  clear hnum
  have cy := cell_blk k6 0
  simp at cy
  have K6 := hide k6; clear k6
  have ho : Hid (Only [f, g] w w1) := by
    have h := k3.out
    have hb := HB0.out
    refine ⟨h.os.trans hb.os, h.tape.trans hb.tape, h.output.trans hb.output, Nat.le_trans hb.size h.size, fun i hi hn => (h.block i (Nat.lt_of_lt_of_le hi hb.size) ?_).trans (hb.block i hi)⟩
    simp at hn ⊢
    omega
  have K7 := hide k7; clear k7
  by_cases h0 : e' = 0
  · subst h0
    go_wp2_with fail
    go_ret2
    rcases K7.out with ⟨a, b, d'⟩ | ⟨a, _⟩
    · rw [d' (by omega)]
      exact ⟨0, r', d, _, rfl, k1, k2, ho, k4, k5, .inl ⟨a, b, rfl⟩⟩
    · omega
  · have hne : (e' != 0) = true := by simpa using h0
    have H0 := hide h0; clear h0
    go_wp2_with fail
    go_ret2
    rcases K7.out with ⟨a, b, d'⟩ | ⟨a, b, d', e''⟩
    · exact ⟨e', r', d, 0, rfl, k1, k2, ho, k4, k5, .inl ⟨a, b, (hz.out (by have := H0.out; omega)).symm⟩⟩
    · exact ⟨e', r', d, 0, rfl, k1, k2, ho, k4, k5, .inr ⟨a, b, rfl, d', e''⟩⟩
end Go.Proofs.Ytdhmkapknaphpaa

namespace Go.Proofs.Ytdhmkapknaphpaa
open Go.RowKit
set_option linter.unusedVariables false

theorem u8_bd {n : Int} (h : (Lit.int .u8 n).wf = true) : 0 ≤ n ∧ n ≤ 255 := by
  simpa [Lit.wf, IntKind.min, IntKind.max, IntKind.signed, IntKind.bits] using h

/-- what a read without a sign answers, in cases -/
theorem unsigned_cases (l : List UInt8) (n : Int) : ((unsignedL l n).2.2 = 0 ∧ 1 ≤ (unsignedL l n).2.1 ∧ (unsignedL l n).2.1 ≤ l.length) ∨ ((unsignedL l n).2.2 ≠ 0 ∧ (unsignedL l n).2.2 ≤ 4 ∧ (unsignedL l n).2.1 = 0) := by
  have h := unsigned_num n
  by_cases h0 : (unsignedL l n).2.2 = 0
  · obtain ⟨a, b, _⟩ := h.self l h0
    exact .inl ⟨h0, b, a⟩
  · exact .inr ⟨h0, h.le l, h.none_ l h0⟩
theorem signed_cases (l : List UInt8) (n : Int) : ((signedL l n).2.2 = 0 ∧ 1 ≤ (signedL l n).2.1 ∧ (signedL l n).2.1 ≤ l.length) ∨ ((signedL l n).2.2 ≠ 0 ∧ (signedL l n).2.2 ≤ 4 ∧ (signedL l n).2.1 = 0) := by
  have h := signed_num n
  by_cases h0 : (signedL l n).2.2 = 0
  · obtain ⟨a, b, _⟩ := h.self l h0
    exact .inl ⟨h0, b, a⟩
  · exact .inr ⟨h0, h.le l, h.none_ l h0⟩

set_option maxHeartbeats 400000 in
theorem bytes_range2 (f c : Nat) (A : Option Addr) (bs : List UInt8) (r fl a n : Int) (w : World) (hf : Hid (FL w f A c bs r fl)) (hl : bs.length ≤ 65536)
    (h1 : 0 ≤ a) (h2 : 0 ≤ n) (h3 : a ≤ bs.length) (h4 : (bs.length : Int) - a < n) :
    Calls Try.prog 83 #[.pointer (some ⟨f, 0, none⟩), .int .i64 a, .int .i64 n] w fun e w' => e = .returned (.tuple #[.slice none 0 0, .int .i64 2]) ∧ Hid (Only [] w w') := by
  have c0 := cell_blk hf.out.blk 0
  simp at c0
  go_enter Try.func83, Try.ntmps83
  go_wp2_with fail
  go_ret2
  exact ⟨rfl, ⟨rfl, rfl, rfl, Nat.le_refl _, fun _ _ _ => rfl⟩⟩

end Go.Proofs.Ytdhmkapknaphpaa
