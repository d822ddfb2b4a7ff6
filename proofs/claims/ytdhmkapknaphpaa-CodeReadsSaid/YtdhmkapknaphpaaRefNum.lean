/-
  The document's instructions: number: contract.
-/
import Derived.Test.YtdhmkapknaphpaaDecAll
import Derived.Test.YtdhmkapknaphpaaLebLawS
namespace Go.Proofs.Ytdhmkapknaphpaa
open Go.RowKit
set_option linter.unusedVariables false

/-- a number at a place, if there is no error so far -/
def refNumR (bs : List UInt8) (at_ e : Nat) (bits : Int) : Nat × Nat × Nat :=
  if e ≠ 0 then (0, at_, e) else ((unsignedL (bs.drop at_) bits).1, at_ + (unsignedL (bs.drop at_) bits).2.1, (unsignedL (bs.drop at_) bits).2.2)
theorem refNumR_le (bs : List UInt8) (at_ e : Nat) (bits : Int) (h : at_ ≤ bs.length) : at_ ≤ (refNumR bs at_ e bits).2.1 ∧ (refNumR bs at_ e bits).2.1 ≤ bs.length := by
  unfold refNumR
  split
  · exact ⟨Nat.le_refl _, h⟩
  · have := unsigned_cases (bs.drop at_) bits
    rw [List.length_drop] at this
    simp only
    omega

/-- the bytes that are read, as they lie -/
structure BY (w : World) (A : Option Addr) (c Bk : Nat) (bs : List UInt8) : Prop where
  row : Reads w Bk 1 A bs.length (bs.map B)
  cap : bs.length ≤ c
theorem BY.below {w w' : World} {A : Option Addr} {c Bk : Nat} {bs : List UInt8} (h : BY w A c Bk bs) (hb : Below Bk w w') : BY w' A c Bk bs := ⟨h.row.below hb, h.cap⟩
theorem BY.at_ {w : World} {A : Option Addr} {c Bk : Nat} {bs : List UInt8} (h : BY w A c Bk bs) (k : Nat) (hk : k ≤ bs.length) (hB : Bk ≤ w.heap.size) :
    Reads w w.heap.size 1 (if c = k then A else A.map (·.add k)) (bs.length - k) ((bs.drop k).map B) := by
  have := (h.row.cut (k := k) hk h.cap).more hB
  simpa using this

/-- the two blocks that number makes -/
structure NB (w W : World) (g : Nat) (at_ e : Int) : Prop where
  h4 : W.heap[g]? = some (.cells #[.int .i64 at_, .int .i64 e] 72 (0, 0))
  h7 : W.heap[g + 1]? = some (.cells #[.int .i64 0, .int .i64 0] 72 (0, 0))
  bel : Below g w W
  size : W.heap.size = g + 2
theorem NB.of (w : World) (at_ e : Int) : NB w ((w.alloc (.cells #[.int .i64 at_, .int .i64 e] 72)).alloc (.cells #[.int .i64 0, .int .i64 0] 72)) w.heap.size at_ e := by
  refine ⟨?_, ?_, ((Below.refl _ _).alloc (Nat.le_refl _) _).alloc (by simp) _, by simp⟩
  · rw [Below.heap_alloc _ _ _ (by simp)]; exact heap_alloc_new w _
  · have := heap_alloc_new (w.alloc (.cells #[.int .i64 at_, .int .i64 e] 72)) (.cells #[.int .i64 0, .int .i64 0] 72)
    simpa using this

set_option maxRecDepth 100000 in
set_option maxHeartbeats 1600000 in
theorem refNumber_ok (A : Option Addr) (c Bk : Nat) (bs : List UInt8) (at_ : Nat) (bits : Int) (w : World) (hb : Hid (BY w A c Bk bs)) (hB : Bk ≤ w.heap.size) (hl : bs.length ≤ 400) (hat : at_ ≤ bs.length) (hcm : c ≤ maxLen) (q0 q1 q2 : Nat) (hq : Hid (unsignedL (bs.drop at_) bits = (q0, q1, q2))) :
    Calls Try.prog 36 #[.slice A bs.length c, .agg #[.int .i64 (at_ : Int), .int .i64 0], .int .i64 bits] w fun en w' =>
      en = .returned (.tuple #[.int .u64 (q0 : Int), .agg #[.int .i64 ((at_ : Int) + (q1 : Int)), .int .i64 (q2 : Int)]]) ∧ Hid (Below w.heap.size w w') := by
  unfold maxLen at hcm
  have hcap := hb.out.cap
  obtain ⟨g, hg⟩ : ∃ g, w.heap.size = g := ⟨_, rfl⟩
  have hnb := NB.of w (at_ : Int) 0
  generalize hW : (w.alloc (.cells #[.int .i64 (at_ : Int), .int .i64 0] 72)).alloc (.cells #[.int .i64 0, .int .i64 0] 72) = W at hnb
  rw [hg] at hnb
  have hu : refUnsignedL (bs.drop at_) bits = (q0, q1, q2) := by rw [← unsigned_law, hq.out]
  have hcs := unsigned_cases (bs.drop at_) bits
  rw [hq.out, List.length_drop] at hcs
  simp only at hcs
  have hq1 : q1 ≤ 400 := by omega
  have hq2 : at_ + q1 ≤ 400 := by omega
  have hbW := hb.out.below (hnb.bel.mono (by omega))
  have hrd := hbW.at_ at_ hat (by rw [hnb.size]; omega)
  have hll : (bs.drop at_).length = bs.length - at_ := by simp
  have d0 := cell_blk hnb.h4 0
  have d1 := cell_blk hnb.h4 1
  simp at d0 d1
  have HNB := hide hnb
  have HW := hide hW; have HG := hide hg
  clear hnb hW hg hcs hbW
  by_cases hc : c = at_
  · subst hc
    have hbs : bs.length = c := by omega
    have hd : bs.drop c = [] := List.drop_of_length_le (by omega)
    have HU := hide (refUnsigned_any A 0 [] bits W ⟨by simp, fun h => absurd h (by simp)⟩ (by simp) q0 q1 q2 (by rw [hd] at hu; exact hu))
    simp only [List.length_nil] at HU
    have HBS := hide hbs
    clear hll hrd hu hd hbs
    go_enter Try.func36, Try.ntmps36
    go_wp2_with fail
    rw [HW.out, HG.out]
    refine HU.out.mono ?_; rintro e w1 ⟨rfl, hb1⟩
    have k7 := hide ((hb1.block (g + 1) (by rw [HNB.out.size]; omega)).trans HNB.out.h7)
    have k4 := hide ((hb1.block g (by rw [HNB.out.size]; omega)).trans HNB.out.h4)
    have e0 := cell_blk k7.out 0
    have e1 := cell_blk k7.out 1
    simp at e0 e1
    have z0 := frozen_blk k7.out 0
    have z1 := frozen_blk k7.out 1
    have d0' := cell_blk k4.out 0
    simp at d0'
    have s1 : IntKind.i64.wrap ((c : Int) + (q1 : Int)) = (c : Int) + (q1 : Int) := IntWalk.i64_in _ (by omega)
    have HB1 := hide hb1
    clear hb1 d0 d1
    go_wp2_with fail
    go_region
    go_wp2_with fail
    refine bodyPost_ret (v := .tuple #[.int .u64 (q0 : Int), .agg #[.int .i64 ((c : Int) + (q1 : Int)), .int .i64 (q2 : Int)]]) (by simp [results, Try.results36, go_sem, e0, e1]) rfl ⟨rfl, ?_⟩
    have hs : ∀ (V : World) (i : Nat) (x : Value), Only [g + 1] V (V.setCell ⟨g + 1, i, none⟩ x) := fun V i x => Only.setCell V (p := ⟨g + 1, i, none⟩) (by simp) x
    rw [HG.out]
    refine (HNB.out.bel.trans (HB1.out.mono (by rw [HNB.out.size]; omega))).trans ?_
    exact (((hs w1 0 _).trans (hs _ 1 _)).trans (Only.drew _ _)).below (by have := HB1.out.size; rw [HNB.out.size] at this; omega) (by simp)
  · rw [if_neg hc] at hrd
    have HU := hide (refUnsigned_any (A.map (·.add at_)) (c - at_) (bs.drop at_) bits W (by rw [hll]; exact hrd) (by rw [hll]; omega) q0 q1 q2 hu)
    rw [hll] at HU
    clear hll hrd hu
    go_enter Try.func36, Try.ntmps36
    go_wp2_with fail
    rw [HW.out, HG.out]
    refine HU.out.mono ?_; rintro e w1 ⟨rfl, hb1⟩
    have k7 := hide ((hb1.block (g + 1) (by rw [HNB.out.size]; omega)).trans HNB.out.h7)
    have k4 := hide ((hb1.block g (by rw [HNB.out.size]; omega)).trans HNB.out.h4)
    have e0 := cell_blk k7.out 0
    have e1 := cell_blk k7.out 1
    simp at e0 e1
    have z0 := frozen_blk k7.out 0
    have z1 := frozen_blk k7.out 1
    have d0' := cell_blk k4.out 0
    simp at d0'
    have s1 : IntKind.i64.wrap ((at_ : Int) + (q1 : Int)) = (at_ : Int) + (q1 : Int) := IntWalk.i64_in _ (by omega)
    have HB1 := hide hb1
    clear hb1 d0 d1
    go_wp2_with fail
    go_region
    go_wp2_with fail
    refine bodyPost_ret (v := .tuple #[.int .u64 (q0 : Int), .agg #[.int .i64 ((at_ : Int) + (q1 : Int)), .int .i64 (q2 : Int)]]) (by simp [results, Try.results36, go_sem, e0, e1]) rfl ⟨rfl, ?_⟩
    have hs : ∀ (V : World) (i : Nat) (x : Value), Only [g + 1] V (V.setCell ⟨g + 1, i, none⟩ x) := fun V i x => Only.setCell V (p := ⟨g + 1, i, none⟩) (by simp) x
    rw [HG.out]
    refine (HNB.out.bel.trans (HB1.out.mono (by rw [HNB.out.size]; omega))).trans ?_
    exact (((hs w1 0 _).trans (hs _ 1 _)).trans (Only.drew _ _)).below (by have := HB1.out.size; rw [HNB.out.size] at this; omega) (by simp)

set_option maxRecDepth 100000 in
set_option maxHeartbeats 800000 in
theorem refNumber_no (A : Option Addr) (n c : Nat) (at_ e : Int) (bits : Int) (w : World) (he : e ≠ 0) :
    Calls Try.prog 36 #[.slice A n c, .agg #[.int .i64 at_, .int .i64 e], .int .i64 bits] w fun en w' =>
      en = .returned (.tuple #[.int .u64 0, .agg #[.int .i64 at_, .int .i64 e]]) ∧ Hid (Below w.heap.size w w') := by
  have f1 : (e != 0) = true := by simpa using he
  have f0 : (e == 0) = false := by simpa using he
  obtain ⟨g, hg⟩ : ∃ g, w.heap.size = g := ⟨_, rfl⟩
  have hnb := NB.of w at_ e
  generalize hW : (w.alloc (.cells #[.int .i64 at_, .int .i64 e] 72)).alloc (.cells #[.int .i64 0, .int .i64 0] 72) = W at hnb
  rw [hg] at hnb
  have d0 := cell_blk hnb.h4 0
  have d1 := cell_blk hnb.h4 1
  have e0 := cell_blk hnb.h7 0
  have e1 := cell_blk hnb.h7 1
  simp at d0 d1 e0 e1
  have z0 := frozen_blk hnb.h7 0
  have z1 := frozen_blk hnb.h7 1
  have HNB := hide hnb
  have HW := hide hW; have HG := hide hg
  clear he hnb hW hg
  go_enter Try.func36, Try.ntmps36
  go_upto_region 1 with fail
  rw [HW.out, HG.out]
  go_upto_region 2 with fail
  go_region
  go_wp2_with fail
  refine bodyPost_ret (v := .tuple #[.int .u64 0, .agg #[.int .i64 at_, .int .i64 e]]) (by simp [results, Try.results36, go_sem, e0, e1]) rfl ⟨rfl, ?_⟩
  have hs : ∀ (V : World) (i : Nat) (x : Value), Only [g + 1] V (V.setCell ⟨g + 1, i, none⟩ x) := fun V i x => Only.setCell V (p := ⟨g + 1, i, none⟩) (by simp) x
  rw [HG.out]
  exact HNB.out.bel.trans ((((hs W 0 _).trans (hs _ 1 _)).trans (Only.drew _ _)).below (by rw [HNB.out.size]; omega) (by simp))

/-- a number of the document's: the place and the error before it, and behind it -/
theorem refNumber_any (A : Option Addr) (c Bk : Nat) (bs : List UInt8) (at_ e : Nat) (bits : Int) (w : World) (hb : Hid (BY w A c Bk bs)) (hB : Bk ≤ w.heap.size) (hl : bs.length ≤ 400) (hat : at_ ≤ bs.length) (hcm : c ≤ maxLen) (r : Nat × Nat × Nat) (hr : Hid (refNumR bs at_ e bits = r)) :
    Calls Try.prog 36 #[.slice A bs.length c, .agg #[.int .i64 (at_ : Int), .int .i64 (e : Int)], .int .i64 bits] w fun en w' =>
      en = .returned (.tuple #[.int .u64 (r.1 : Int), .agg #[.int .i64 (r.2.1 : Int), .int .i64 (r.2.2 : Int)]]) ∧ Hid (Below w.heap.size w w') := by
  have hR := hr.out
  unfold refNumR at hR
  by_cases he : e = 0
  · subst he
    rw [if_neg (fun x => x rfl)] at hR
    obtain ⟨q0, q1, q2, hq⟩ : ∃ q0 q1 q2, unsignedL (bs.drop at_) bits = (q0, q1, q2) := ⟨_, _, _, rfl⟩
    rw [hq] at hR
    rw [← hR]
    refine (refNumber_ok A c Bk bs at_ bits w hb hB hl hat hcm q0 q1 q2 hq).mono ?_
    rintro en w' ⟨rfl, hb⟩
    exact ⟨by simp only [Int.natCast_add], hb⟩
  · rw [if_pos he] at hR
    rw [← hR]
    exact refNumber_no A bs.length c (at_ : Int) (e : Int) bits w (by omega)
end Go.Proofs.Ytdhmkapknaphpaa
