/-
  ConvExtends: the law's walk.
-/
import Derived.Test.YtpphkfolhlkaiaaDoorConvB
import Derived.Test.YtpphkfolhlkaiaaDoorConvC
import Derived.Test.YtpphkfolhlkaiaaDoorArgs
namespace Go.Proofs.YtpphkfolhlkaiaaDoor
open Go.RowKit
set_option linter.unusedVariables false

theorem tab_below {w w' : World} (h : Tab w) (hb : Below w.heap.size w w') : Tab w' := by
  unfold Tab Lib.TabIs World.var? at *
  revert h
  cases hg : Tryd.prog.globalNamed "internal/strconv.uint64pow10" with
  | none => intro h; simp at h
  | some g =>
    intro h
    simp only [Option.bind_some] at h ⊢
    have hlt : g < w.heap.size := by
      apply Decidable.byContradiction
      intro hn
      rw [Array.getElem?_eq_none (by omega)] at h
      simp at h
    rw [hb.block g hlt]
    exact h

set_option maxHeartbeats 400000 in
theorem wrap_any (a : Nat) (w : World) (ha : a ≤ 18446744073709551615) :
    Calls Tryd.prog 7 #[.int .u64 a] w fun e w' => e = .returned (.int .u64 ((a : Int) % 4294967296)) ∧ w = w' := by
  have H := hide (cut_any 32 a w (by omega) (by omega))
  rw [if_pos rfl] at H
  go_enter Tryd.func7, Tryd.ntmps7
  go_wp2_with fail
  refine H.out.mono ?_; rintro e w' ⟨rfl, rfl⟩
  go_wp2_with fail
  go_ret
  exact ⟨rfl, rfl⟩

set_option maxHeartbeats 1600000 in
theorem ConvExtends_walk (f t : Int) (sg : Bool) (n : Int) (w : World) (wf : (Lit.int .i64 f).wf = true) (wt : (Lit.int .i64 t).wf = true) (wn : (Lit.int .u64 n).wf = true) (ht : Tab w) :
    Calls Tryd.prog 3 #[.int .i64 f, .int .i64 t, .bool sg, .int .u64 n] w fun e w' => e = .returned (.bool true) ∧ Below w.heap.size w w' := by
  obtain ⟨a, rfl, ha⟩ := u64_bd wn
  have ha' : a ≤ 18446744073709551615 := by simp at ha; omega
  have HA := hide ha; clear ha
  have HT := hide ht; clear ht
  obtain ⟨f1, f2⟩ := i64_bd wf
  obtain ⟨t1, t2⟩ := i64_bd wt
  have HW := hide (awakeC w HT)
  by_cases h : widthsOk f t
  · obtain ⟨f', rfl⟩ : ∃ q : Nat, f = q := ⟨f.toNat, by unfold widthsOk at h; omega⟩
    obtain ⟨t', rfl⟩ : ∃ q : Nat, t = q := ⟨t.toNat, by unfold widthsOk at h; omega⟩
    have hw := h
    unfold widthsOk at hw
    have HX := hide (extend_yes f' t' sg a w h ha')
    have HR := hide (refExtend_any f' t' sg a w (by omega) (by omega) (by omega) HA)
    obtain ⟨x, hx⟩ : ∃ x, extV f' t' sg a = x := ⟨_, rfl⟩
    rw [hx] at HX HR
    clear hx
    obtain ⟨hw1, hw2⟩ := hw
    have hw1' : f' = 8 ∨ f' = 16 ∨ f' = 32 := by omega
    have hw2' : t' = 32 ∨ t' = 64 := by omega
    clear hw1 hw2 h
    rcases hw1' with rfl | rfl | rfl <;> rcases hw2' with rfl | rfl
    all_goals
      go_enter Tryd.func3, Tryd.ntmps3
      go_wp2_with fail
      refine HX.out.mono ?_; rintro e w' ⟨rfl, rfl⟩
      go_wp2_with fail
      refine (wrap_any a w ha').mono ?_; rintro e w' ⟨rfl, rfl⟩
      go_wp2_with fail
      refine HR.out.mono ?_; rintro e w1 ⟨rfl, hb1⟩
      have HB1 := hide hb1; clear hb1
      go_wp2_with fail
      refine (awakeC w1 (tab_below HT.out HB1.out)).mono ?_; rintro e w2 ⟨rfl, hb2⟩
      have HB2 := hide (HB1.out.trans (hb2.mono HB1.out.size)); clear hb2
      go_wp2_with fail
      go_ret
      exact ⟨rfl, HB2.out⟩
  · have HX := hide (extend_no f t sg a w h)
    unfold widthsOk at h
    by_cases h1 : f = 8 ∨ f = 16 ∨ f = 32
    · have e1 : (t == 32) = false := by simp; omega
      have e2 : (t == 64) = false := by simp; omega
      have e3 : (t != 32) = true := by simp; omega
      have e4 : (t != 64) = true := by simp; omega
      clear h
      rcases h1 with rfl | rfl | rfl
      all_goals
        go_enter Tryd.func3, Tryd.ntmps3
        go_wp2_with fail
        refine HX.out.mono ?_; rintro e w' ⟨rfl, rfl⟩
        go_wp2_with fail
        refine (wrap_any a w ha').mono ?_; rintro e w' ⟨rfl, rfl⟩
        go_wp2_with fail
        refine HW.out.mono ?_; rintro e w2 ⟨rfl, hb2⟩
        have HB2 := hide hb2; clear hb2
        go_wp2_with fail
        go_ret
        exact ⟨rfl, HB2.out⟩
    · have e1 : (f == 8) = false := by simp; omega
      have e2 : (f == 16) = false := by simp; omega
      have e3 : (f == 32) = false := by simp; omega
      have e4 : (f != 8) = true := by simp; omega
      have e5 : (f != 16) = true := by simp; omega
      have e6 : (f != 32) = true := by simp; omega
      clear h h1
      go_enter Tryd.func3, Tryd.ntmps3
      go_wp2_with fail
      refine HX.out.mono ?_; rintro e w' ⟨rfl, rfl⟩
      go_wp2_with fail
      refine (wrap_any a w ha').mono ?_; rintro e w' ⟨rfl, rfl⟩
      go_wp2_with fail
      refine HW.out.mono ?_; rintro e w2 ⟨rfl, hb2⟩
      have HB2 := hide hb2; clear hb2
      go_wp2_with fail
      go_ret
      exact ⟨rfl, HB2.out⟩
end Go.Proofs.YtpphkfolhlkaiaaDoor
