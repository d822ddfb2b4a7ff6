import Derived.Test.YtcfmbdkhefdgdaaGreatQBR
import Derived.Test.YtcfmbdkhefdgdaaGreatQBK
set_option linter.unusedVariables false
namespace Go.Proofs.YtcfmbdkhefdgdaaGreat
open Go.RowKit
def moE : MoL := ⟨noSl, noSl, noSl, -1, noSl, noSl, noSl, -1, noSl, noSl⟩
def moX (q : Nat) : MoL := ⟨noSl, noSl, noSl, -1, ⟨some ⟨q, 0, none⟩, 1, [⟨2, 1, false⟩]⟩, noSl, noSl, -1, noSl, noSl⟩
def moXg : Mo := ⟨[], [], [], -1, [⟨2, 1, false⟩], [], [], -1, [], []⟩
theorem moX_g (q : Nat) : (moX q).g = moXg := rfl
theorem moX_unfit (q : Nat) : (unfitP (moX q).g).2 ≠ 0 := by rw [moX_g]; decide +kernel
theorem moE_fit : (unfitP moE.g).2 = 0 := by decide +kernel
theorem moE_sm : MoSm moE := by
  refine ⟨by simp [moE, noSl], fun z hz => ?_, by simp [moE, noSl], fun x hx => by simp [moE, noSl] at hx, by simp [moE, noSl], fun y hy => ?_, by simp [moE, noSl], by simp [moE, noSl], by simp [moE, noSl], fun x hx => by simp [moE, noSl] at hx, by simp [moE, noSl], fun x hx => by simp [moE, noSl] at hx, by simp [moE, noSl], fun x hx => by simp [moE, noSl] at hx⟩
  · simp [moE, noSl] at hz
  · simp [moE, noSl] at hy
theorem moX_sm (q : Nat) : MoSm (moX q) := by
  refine ⟨by simp [moX, noSl], fun z hz => ?_, by simp [moX, noSl], fun x hx => by simp [moX, noSl] at hx, by simp [moX, noSl], fun y hy => ?_, by simp [moX, noSl], by simp [moX, noSl], by simp [moX, noSl], fun x hx => by simp [moX, noSl] at hx, by simp [moX, noSl], fun x hx => by simp [moX, noSl] at hx, by simp [moX, noSl], fun x hx => by simp [moX, noSl] at hx⟩
  · simp [moX, noSl] at hz
  · simp [moX, noSl] at hy
theorem moE_in (w : World) : MoIn w moE :=
  ⟨row_none, fun x hx => by simp [moE, noSl] at hx, row_none, fun x hx => by simp [moE, noSl] at hx, row_none, fun x hx => by simp [moE, noSl] at hx, by unfold I64; simp [moE], row_none, fun x hx => by simp [moE, noSl] at hx, row_none, fun x hx => by simp [moE, noSl] at hx, row_none, fun x hx => by simp [moE, noSl] at hx, by unfold I64; simp [moE], row_none, fun x hx => by simp [moE, noSl] at hx, row_none, fun x hx => by simp [moE, noSl] at hx⟩
theorem moX_in {w : World} {q : Nat} (h : w.heap[q]? = some (.cells #[.int .i64 2, .int .i64 1, .bool false] 75 (0, 0))) : MoIn w (moX q) :=
  ⟨row_none, fun x hx => by simp [moX, noSl] at hx, row_none, fun x hx => by simp [moX, noSl] at hx, row_none, fun x hx => by simp [moX, noSl] at hx, by unfold I64; simp [moX], row_blk h (fun _ => rfl) (by simp) (by omega), fun x hx => by
    simp [moX] at hx
    subst hx
    unfold I64
    simp, row_none, fun x hx => by simp [moX, noSl] at hx, row_none, fun x hx => by simp [moX, noSl] at hx, by unfold I64; simp [moX], row_none, fun x hx => by simp [moX, noSl] at hx, row_none, fun x hx => by simp [moX, noSl] at hx⟩
set_option maxRecDepth 100000 in
theorem empty_any (w : World) : Calls Tryz.prog 19 #[] w fun e w' => e = .returned (.pointer (some ⟨w.heap.size, 0, none⟩)) ∧ Hid (MoAt w' w.heap.size moE) ∧ Hid (Below w.heap.size w w') := by
  obtain ⟨W1, hW1, hb1, hx1, hs1⟩ := box_new w #[.slice none 0 0, .slice none 0 0, .slice none 0 0, .int .i64 (-1), .slice none 0 0, .slice none 0 0, .slice none 0 0, .int .i64 (-1), .slice none 0 0, .slice none 0 0] 79
  have HW := hide hW1; have HB := hide hb1; have HX := hide hx1
  clear hW1 hb1 hx1 hs1
  go_enter Tryz.func19, Tryz.ntmps19
  go_wp2_with fail
  rw [HW.out]
  go_ret
  exact ⟨rfl, ⟨HX.out, moE_in _⟩, HB⟩
theorem nil_func (f : Int) (w : World) : Calls Tryz.prog 14 #[.pointer none, .int .i64 f] w fun e w' => e = .returned (.tuple #[.int .i64 0, .int .i64 12]) ∧ Hid (Below w.heap.size w w') := func_of _ f w _ (hide (run_nil f w))
theorem nil_heights (f : Int) (w : World) : Calls Tryz.prog 18 #[.pointer none, .int .i64 f] w fun e w' => ∃ A c, e = .returned (.tuple #[.slice A 0 c, .int .i64 12]) ∧ Hid (Below w.heap.size w w') := (heights_of _ f w _ (hide (run_nil f w))).mono fun e w' ⟨A, c, he, _, hb⟩ => ⟨A, c, he, hb⟩
theorem nil_peak (f : Int) (w : World) : Calls Tryz.prog 15 #[.pointer none, .int .i64 f] w fun e w' => e = .returned (.int .i64 0) ∧ Hid (Below w.heap.size w w') := peak_of _ f w _ (hide (run_nil f w)) (by simp)
theorem nil_locals (f : Int) (w : World) : Calls Tryz.prog 12 #[.pointer none, .int .i64 f] w fun e w' => e = .returned (.int .i64 0) ∧ Hid (Below w.heap.size w w') := locals_len_any _ f w [] false (hide (locals_nil_any f w))
theorem empty_func {g : Nat} (f : Int) (w : World) (h : Hid (MoAt w g moE)) : Calls Tryz.prog 14 #[.pointer (some ⟨g, 0, none⟩), .int .i64 f] w fun e w' => e = .returned (.tuple #[.int .i64 0, .int .i64 2]) ∧ Hid (Below w.heap.size w w') :=
  func_of _ f w _ (hide (run_out g moE f w h (hide moE_sm.sz) moE_fit (by simp [moE, noSl]; omega)))
theorem bad_func {g q : Nat} (f : Int) (w : World) (h : Hid (MoAt w g (moX q))) : Calls Tryz.prog 14 #[.pointer (some ⟨g, 0, none⟩), .int .i64 f] w fun e w' => e = .returned (.tuple #[.int .i64 0, .int .i64 12]) ∧ Hid (Below w.heap.size w w') :=
  func_of _ f w _ (hide (run_unfit g (moX q) f w h (hide (moX_sm q).sz) (moX_unfit q)))
set_option maxRecDepth 100000 in
set_option maxHeartbeats 1600000 in
theorem checknone_any (f n : Int) (w : World) (ml : Int) (hml : Hid (w.cell? ⟨0, 0, none⟩ = some (.int .i64 ml))) :
    Calls Tryz.prog 6 #[.int .i64 f, .int .i64 n] w fun e w' => e = .returned (.bool true) ∧ Below w.heap.size w w' := by
  have HAW := hide (awake16 w ml hml)
  go_enter Tryz.func6, Tryz.ntmps6
  go_wp2_with fail
  refine HAW.out.mono ?_; rintro e w1 ⟨rfl, hb1⟩
  go_wp2_with fail
  refine (nil_func f w1).mono ?_; rintro e w2 ⟨rfl, hb2⟩
  have H2 := hide (hb1.out.trans (hb2.out.mono hb1.out.size))
  go_wp2_with fail
  refine (nil_heights f w2).mono ?_; rintro e w3 ⟨A, c, rfl, hb3⟩
  have H3 := hide (H2.out.trans (hb3.out.mono H2.out.size))
  go_wp2_with fail
  refine (local_none_any (.pointer none) f n w3 [] false (hide (locals_nil_any f w3)) (by simp) (.inl rfl)).mono ?_; rintro e w4 ⟨rfl, hb4⟩
  have H4 := hide (H3.out.trans (hb4.out.mono H3.out.size))
  go_wp2_with fail
  refine (empty_any w4).mono ?_; rintro e w5 ⟨rfl, hM5, hb5⟩
  have H5 := hide (H4.out.trans (hb5.out.mono H4.out.size))
  go_wp2_with fail
  refine (empty_func f w5 hM5).mono ?_; rintro e w6 ⟨rfl, hb6⟩
  have H6 := hide (H5.out.trans (hb6.out.mono H5.out.size))
  go_wp2_with fail
  refine (empty_any w6).mono ?_; rintro e w7 ⟨rfl, hM7, hb7⟩
  have H7 := hide (H6.out.trans (hb7.out.mono H6.out.size))
  obtain ⟨g, hg⟩ : ∃ g, w6.heap.size = g := ⟨_, rfl⟩
  rw [hg] at hM7 ⊢
  have hlt7 := hM7.out.lt
  obtain ⟨q, hq⟩ : ∃ q, w7.heap.size = q := ⟨_, rfl⟩
  rw [hq] at hlt7
  have k7 := hM7.out.blk
  have hO : Only [g] w7 (w7.setCell ⟨g, 4, none⟩ (.slice (some ⟨q, 0, none⟩) 1 1)) := Only.setCell w7 (p := ⟨g, 4, none⟩) (by simp) _
  have k8 := setCell_blk k7 4 (.slice (some ⟨q, 0, none⟩) 1 1)
  have hwg : w.heap.size ≤ g := by have := H6.out.size; omega
  have hs8 : (w7.setCell ⟨g, 4, none⟩ (.slice (some ⟨q, 0, none⟩) 1 1)).heap.size = q := by rw [World.setCell]; simp; omega
  obtain ⟨W8, hW8⟩ : ∃ W8, w7.setCell ⟨g, 4, none⟩ (.slice (some ⟨q, 0, none⟩) 1 1) = W8 := ⟨_, rfl⟩
  rw [hW8] at hO k8 hs8
  obtain ⟨W9, hW9, hb9, hx9, hs9⟩ := box_new W8 #[.int .i64 2, .int .i64 1, .bool false] 75
  rw [hs8] at hx9 hs9
  have k9 := (hb9.block g (by omega)).trans k8
  have hwq : w.heap.size ≤ q := by have := H7.out.size; omega
  have H9 : Hid (Below w.heap.size w W9) := (H7.out.trans (hO.below (by omega) (by simp; omega))).trans (hb9.mono (by omega))
  have HM9 : Hid (MoAt W9 g (moX q)) := ⟨k9, moX_in hx9⟩
  have HK7 := hide k7; have HQ := hide hq; have HW8 := hide hW8; have HW9 := hide hW9
  have c4 := cell_blk HK7.out 4
  have f4 := frozen_blk HK7.out 4
  simp [MoL.cs, moE, noSl, Sl.val] at c4
  have hgq : ¬ g = q := by omega
  clear hW8 hW9 hb9 hx9 hs8 hs9 k8 k9 k7 hO hM7 hM5 hb1 hb2 hb3 hb4 hb5 hb6 hb7 H2 H3 H4 H5 H6 H7 hg hwg hwq HAW
  go_upto_region 9 with fail
  rw [HW8.out, HW9.out]
  clear c4 f4
  go_wp2_with fail
  refine (bad_func 0 W9 HM9).mono ?_; rintro e w10 ⟨rfl, hb10⟩
  have H10 := hide (H9.out.trans (hb10.out.mono H9.out.size))
  go_wp2_with fail
  refine (nil_peak f w10).mono ?_; rintro e w11 ⟨rfl, hb11⟩
  have H11 := hide (H10.out.trans (hb11.out.mono H10.out.size))
  go_wp2_with fail
  refine (nil_locals f w11).mono ?_; rintro e w12 ⟨rfl, hb12⟩
  have H12 := H11.out.trans (hb12.out.mono H11.out.size)
  go_wp2_with fail
  go_ret
  exact ⟨rfl, H12⟩
theorem CheckNone_walk (f n : Int) (w : World) (hf : (Lit.int .i64 f).wf = true) (hn : (Lit.int .i64 n).wf = true) (hP : ∃ ml, w.cell? ⟨0, 0, none⟩ = some (.int .i64 ml)) :
    Calls Tryz.prog 6 #[.int .i64 f, .int .i64 n] w fun e w' => e = .returned (.bool true) ∧ Below w.heap.size w w' := by
  obtain ⟨ml, hml⟩ := hP
  exact checknone_any f n w ml hml
end Go.Proofs.YtcfmbdkhefdgdaaGreat
