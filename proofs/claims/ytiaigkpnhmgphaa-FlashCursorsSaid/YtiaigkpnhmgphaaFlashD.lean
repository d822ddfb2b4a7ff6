/-
  flash: what a cursor can't take; a byte; a part: contracts.
-/
import Derived.Test.YtiaigkpnhmgphaaFlashC
namespace Go.Proofs.Ytiaigkpnhmgphaa
open Go.RowKit
set_option linter.unusedVariables false

set_option maxHeartbeats 800000 in
set_option maxRecDepth 100000 in
theorem take_wrong (g f : Nat) (fr to at_ n : Int) (w : World) (hc : Hid (CU w g f fr to at_)) (h1 : 0 ≤ at_) (h2 : at_ ≤ to) (h4 : to ≤ 1000000) (h3 : n < 0 ∨ to - at_ < n) :
    Calls Try.prog 12 #[.pointer (some ⟨g, 0, none⟩), .int .i64 n] w fun e w' => e = .returned (.tuple #[.slice none 0 0, .int .i64 (wrongL n (to - at_))]) ∧ ∃ n, w' = w.drewN n := by
  have hwr := wrong_any g f fr to at_ n w hc h1 h2 h4
  obtain ⟨x, hx⟩ : ∃ x, wrongL n (to - at_) = x := ⟨_, rfl⟩
  have hx0 : 0 < x := by
    rw [← hx]; unfold wrongL; split
    · omega
    · rw [if_pos (by omega)]; omega
  rw [hx] at hwr ⊢
  have HW := hide hwr; clear hwr hx h3
  go_enter Try.func12, Try.ntmps12
  go_wp2_with fail
  refine HW.out.mono ?_; rintro e w1 ⟨rfl, d, rfl⟩
  go_wp2_with fail
  go_ret2
  exact ⟨rfl, d, rfl⟩

def BytePost (w : World) (g f c : Nat) (A : Option Addr) (bs : List UInt8) (r fl fr to at_ : Int) (b : UInt8) (e : Ending) (w' : World) : Prop :=
  e = .returned (.tuple #[.int .u8 b.toNat, .int .i64 0]) ∧ Hid (FL w' f A c bs (r + 1) fl) ∧ Hid (CU w' g f fr to (at_ + 1)) ∧ Hid (Only [f, g] w w')

theorem partB_one (bs : List UInt8) (a : Int) (b : UInt8) (h0 : 0 ≤ a) (h : bs[a.toNat]? = some b) : partB bs a 1 = [b] := by
  obtain ⟨hk, hv⟩ := List.getElem?_eq_some_iff.1 h
  unfold partB
  rw [List.drop_eq_getElem_cons hk, hv]
  rfl

set_option maxHeartbeats 800000 in
set_option maxRecDepth 100000 in
theorem byte_ok (g f c : Nat) (A : Option Addr) (bs : List UInt8) (r fl fr to at_ : Int) (b : UInt8) (w : World) (hf : Hid (FL w f A c bs r fl)) (hc : Hid (CU w g f fr to at_)) (hr1 : 0 ≤ r) (hr2 : r ≤ 1000000) (hl : bs.length ≤ 65536)
    (h1 : 0 ≤ at_) (h3 : at_ < to) (h4 : to ≤ (bs.length : Int)) (h5 : fl < 0 ∨ r < fl) (hb : Hid (bs[at_.toNat]? = some b)) :
    Calls Try.prog 13 #[.pointer (some ⟨g, 0, none⟩)] w (BytePost w g f c A bs r fl fr to at_ b) := by
  have ht := take_ok g f c A bs r fl fr to at_ 1 w hf hc hr1 hr2 hl h1 (by omega) (by omega) h4 h5
  have HT := hide ht; clear ht h5
  go_enter Try.func13, Try.ntmps13
  go_wp2_with fail
  refine HT.out.mono ?_; rintro e w1 ⟨A1, c1, rfl, k1, k2, k3, k4⟩
  have hp := partB_one bs at_ b h1 hb.out
  rw [hp] at k1 ⊢
  clear hp
  obtain ⟨ad, x, rfl, hx, hcell, _, _⟩ := (Reads.of_own k1.out).byte (k := 0) (by simp)
  have hxb : x = b := by have := hx.out; simp at this; exact this.symm
  subst hxb
  simp only [List.length_cons, List.length_nil, Nat.zero_add]
  rw [show ad.add 0 = ad from by simp [Addr.add]] at hcell
  go_wp2_with fail
  go_ret2
  exact ⟨rfl, k2, k3, k4⟩

set_option maxHeartbeats 800000 in
theorem byte_short (g f : Nat) (fr to : Int) (w : World) (hc : Hid (CU w g f fr to to)) (h1 : 0 ≤ to) (h4 : to ≤ 1000000) :
    Calls Try.prog 13 #[.pointer (some ⟨g, 0, none⟩)] w fun e w' => e = .returned (.tuple #[.int .u8 0, .int .i64 3]) ∧ ∃ n, w' = w.drewN n := by
  have ht := take_wrong g f fr to to 1 w hc h1 (by omega) h4 (.inr (by omega))
  have hw : wrongL 1 (to - to) = 3 := by unfold wrongL; rw [if_neg (by omega), if_pos (by omega)]
  rw [hw] at ht
  have HT := hide ht; clear ht hw
  go_enter Try.func13, Try.ntmps13
  go_wp2_with fail
  refine HT.out.mono ?_; rintro e w1 ⟨rfl, d, rfl⟩
  go_wp2_with fail
  go_ret2
  exact ⟨rfl, d, rfl⟩

def PartPost (w : World) (g f : Nat) (fr to at_ n : Int) (e : Ending) (w' : World) : Prop :=
  ∃ p, e = .returned (.tuple #[.pointer (some ⟨p, 0, none⟩), .int .i64 0]) ∧ w.heap.size ≤ p ∧ Hid (CU w' p f at_ (at_ + n) at_) ∧ Hid (CU w' g f fr to (at_ + n)) ∧ Hid (Only [g] w w')

set_option maxHeartbeats 1600000 in
set_option maxRecDepth 100000 in
theorem part_ok (g f : Nat) (fr to at_ n : Int) (w : World) (hc : Hid (CU w g f fr to at_)) (h1 : 0 ≤ at_) (h2 : 0 ≤ n) (h3 : n ≤ to - at_) (h4 : to ≤ 1000000) :
    Calls Try.prog 11 #[.pointer (some ⟨g, 0, none⟩), .int .i64 n] w (PartPost w g f fr to at_ n) := by
  have hw : wrongL n (to - at_) = 0 := by unfold wrongL; rw [if_neg (by omega), if_neg (by omega)]
  have hwr := wrong_any g f fr to at_ n w hc h1 (by omega) (by omega)
  rw [hw] at hwr
  have HW := hide hwr; clear hwr hw
  go_enter Try.func11, Try.ntmps11
  go_wp2_with fail
  refine HW.out.mono ?_; rintro e w1 ⟨rfl, d, rfl⟩
  obtain ⟨w1, hw1⟩ : ∃ w1, w.drewN d = w1 := ⟨_, rfl⟩
  have hc1 : Hid (CU w1 g f fr to at_) := by rw [← hw1]; exact ⟨hc.out.blk, hc.out.lt⟩
  have ho1 : Hid (Only [g] w w1) := by rw [← hw1]; exact ⟨rfl, rfl, rfl, Nat.le_refl _, fun _ _ _ => rfl⟩
  rw [hw1]
  clear hw1
  have c0 := cell_blk hc1.out.blk 0
  have c3 := cell_blk hc1.out.blk 3
  simp at c0 c3
  have hb1 : at_ + n ≤ 1000000 := by omega
  have hsum : IntKind.i64.wrap (at_ + n) = at_ + n := IntWalk.i64_in _ (by omega)
  go_wp2_with fail
  go_region_held3 (fun W => W.cell? ⟨g, 0, none⟩ = some (.pointer (some ⟨f, 0, none⟩)) ∧ W.cell? ⟨g, 3, none⟩ = some (.int .i64 at_))
    (first | exact ⟨c0, c3⟩ | go_keep)
    ((first | (go_at_call 0; skip)))
  have hb : Below w1.heap.size w1 (w1.alloc (.cells #[.pointer (some ⟨f, 0, none⟩), .int .i64 at_, .int .i64 (at_ + n), .int .i64 at_] 67)).drew := ((Below.refl _ _).alloc (Nat.le_refl _) _).drew
  have hp : Hid (CU (w1.alloc (.cells #[.pointer (some ⟨f, 0, none⟩), .int .i64 at_, .int .i64 (at_ + n), .int .i64 at_] 67)).drew w1.heap.size f at_ (at_ + n) at_) := ⟨heap_alloc_new w1 _, by have := hc1.out.lt; have := blk_lt hc1.out.blk; omega⟩
  generalize (w1.alloc (.cells #[.pointer (some ⟨f, 0, none⟩), .int .i64 at_, .int .i64 (at_ + n), .int .i64 at_] 67)).drew = w2 at hb hp ⊢
  have hg := blk_lt hc1.out.blk
  have hc2 := hide (hc1.out.below hb hg)
  have ho2 : Hid (Only [g] w w2) := ho1.out.trans (Only.of_below hb)
  obtain ⟨q, hq⟩ : ∃ q, w1.heap.size = q := ⟨_, rfl⟩
  rw [hq] at hp hg ⊢
  have hwq : w.heap.size ≤ q := by rw [← hq]; exact ho1.out.size
  have d3 := cell_blk hc2.out.blk 3
  have z3 := frozen_blk hc2.out.blk 3
  simp at d3
  clear hq c0 c3 hb hsum
  go_wp2_with fail
  go_ret2
  have hs : Only [g] w2 (w2.setCell ⟨g, 3, none⟩ (.int .i64 (at_ + n))) := Only.setCell w2 (p := ⟨g, 3, none⟩) (by simp) _
  exact ⟨q, rfl, hwq, hp.out.keep hs (by simp; omega), hc2.out.move _, ho2.out.trans hs⟩
end Go.Proofs.Ytiaigkpnhmgphaa
