/-
  types.Bits: contract.
-/
import Derived.Test.YtnfaaiifbiobiaaDoorRows
import Derived.Test.YtnfaaiifbiobiaaDoorMem
import Derived.Outline
namespace Go.Proofs.YtnfaaiifbiobiaaDoor
open Go.RowKit
set_option linter.unusedVariables false

def bitsV (t : UInt8) : Int := if t.toNat = 127 then 32 else if t.toNat = 126 then 64 else 0
set_option maxHeartbeats 400000 in
theorem tbits_any (t : UInt8) (w : World) : Calls Tryd.prog 26 #[.int .u8 t.toNat] w fun e w' => e = .returned (.int .i64 (bitsV t)) ∧ w = w' := by
  unfold bitsV
  have h256 := t.toNat_lt
  generalize t.toNat = n at *
  by_cases h1 : n = 127
  · subst h1
    go_enter Tryd.func26, Tryd.ntmps26
    go_wp2_with fail
    go_ret
    exact ⟨rfl, rfl⟩
  · by_cases h2 : n = 126
    · subst h2
      go_enter Tryd.func26, Tryd.ntmps26
      go_wp2_with fail
      go_ret
      exact ⟨rfl, rfl⟩
    · rw [if_neg h1, if_neg h2]
      have e1 : ((n : Int) == 127) = false := by simp; omega
      have e2 : ((n : Int) == 126) = false := by simp; omega
      clear h1 h2
      go_enter Tryd.func26, Tryd.ntmps26
      go_wp2_with fail
      go_ret
      exact ⟨rfl, rfl⟩
end Go.Proofs.YtnfaaiifbiobiaaDoor
