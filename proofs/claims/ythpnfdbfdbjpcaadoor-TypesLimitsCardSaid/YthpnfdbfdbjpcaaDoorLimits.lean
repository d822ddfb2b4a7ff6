/-
  types: limits: contracts.
-/
import Derived.Test.YthpnfdbfdbjpcaaDoorRows
import Derived.Test.YthpnfdbfdbjpcaaDoorMem
import Derived.Test.YthpnfdbfdbjpcaaDoorWords
import Derived.Maps.RangeWalk
import Derived.Deep.DeepCutAuto
import Derived.IntWalk
import Derived.Outline
namespace Go.Proofs.YthpnfdbfdbjpcaaDoor
open Go.RowKit
set_option linter.unusedVariables false

/-- limits' value -/
def limV (a b : Int) (wide : Bool) : Value := .agg #[.int .i64 a, .int .i64 b, .bool wide]
set_option maxHeartbeats 400000 in
theorem limMost_any (a b m : Int) (wide : Bool) (w : World) : Calls Tryd.prog 9 #[limV a b wide, .int .i64 m] w fun e w' => e = .returned (.int .i64 (if b < 0 then m else b)) ∧ Below w.heap.size w w' := by
  unfold limV
  have hb := (Below.refl w.heap.size w).alloc (Nat.le_refl _) (.cells #[.int .i64 a, .int .i64 b, .bool wide] 23)
  have HB := hide hb
  clear hb
  by_cases h : b < 0
  · rw [if_pos h]
    go_enter Tryd.func9, Tryd.ntmps9
    go_wp2_with fail
    go_ret
    exact ⟨rfl, HB.out⟩
  · rw [if_neg h]
    go_enter Tryd.func9, Tryd.ntmps9
    go_wp2_with fail
    go_ret
    exact ⟨rfl, HB.out⟩

def limRight (a b m : Int) : Bool := decide (0 ≤ a) && (decide (a ≤ m) && (decide (b < 0) || (decide (a ≤ b) && decide (b ≤ m))))
set_option maxHeartbeats 800000 in
theorem limRight_any (a b m : Int) (wide : Bool) (w : World) : Calls Tryd.prog 8 #[limV a b wide, .int .i64 m] w fun e w' => e = .returned (.bool (limRight a b m)) ∧ Below w.heap.size w w' := by
  unfold limV
  have hb := (Below.refl w.heap.size w).alloc (Nat.le_refl _) (.cells #[.int .i64 a, .int .i64 b, .bool wide] 23)
  have HB := hide hb
  clear hb
  by_cases h1 : 0 ≤ a
  · by_cases h2 : a ≤ m
    · by_cases h3 : b < 0
      · have e : limRight a b m = true := by unfold limRight; simp [h1, h2, h3]
        rw [e]
        go_enter Tryd.func8, Tryd.ntmps8
        go_wp2_with fail
        go_ret
        exact ⟨rfl, HB.out⟩
      · by_cases h4 : a ≤ b
        · by_cases h5 : b ≤ m
          · have e : limRight a b m = true := by unfold limRight; simp [h1, h2, h3, h4, h5]
            rw [e]
            go_enter Tryd.func8, Tryd.ntmps8
            go_wp2_with fail
            go_ret
            exact ⟨rfl, HB.out⟩
          · have e : limRight a b m = false := by unfold limRight; simp [h1, h2, h3, h4, h5]
            rw [e]
            go_enter Tryd.func8, Tryd.ntmps8
            go_wp2_with fail
            go_ret
            exact ⟨rfl, HB.out⟩
        · have e : limRight a b m = false := by unfold limRight; simp [h1, h2, h3, h4]
          rw [e]
          go_enter Tryd.func8, Tryd.ntmps8
          go_wp2_with fail
          go_ret
          exact ⟨rfl, HB.out⟩
    · have e : limRight a b m = false := by unfold limRight; simp [h1, h2]
      rw [e]
      go_enter Tryd.func8, Tryd.ntmps8
      go_wp2_with fail
      go_ret
      exact ⟨rfl, HB.out⟩
  · have e : limRight a b m = false := by unfold limRight; simp [h1]
    rw [e]
    go_enter Tryd.func8, Tryd.ntmps8
    go_wp2_with fail
    go_ret
    exact ⟨rfl, HB.out⟩
end Go.Proofs.YthpnfdbfdbjpcaaDoor
