/-
  word.Cut, conv.Wrap: contracts.
-/
import Derived.Test.YtnfaaiifbiobiaaDoorRows
import Derived.Test.YtnfaaiifbiobiaaDoorMem
import Derived.IntWalk
import Derived.Outline
namespace Go.Proofs.YtnfaaiifbiobiaaDoor
open Go.RowKit
set_option linter.unusedVariables false

set_option maxHeartbeats 400000 in
theorem cut_any (n x : Int) (w : World) (h0 : 0 ≤ x) (h1 : x ≤ 18446744073709551615) :
    Calls Tryd.prog 25 #[.int .i64 n, .int .u64 x] w fun e w' => e = .returned (.int .u64 (if n = 32 then x % 4294967296 else x)) ∧ w = w' := by
  by_cases h : n = 32
  · subst h
    go_enter Tryd.func25, Tryd.ntmps25
    go_wp2_with fail
    go_ret
    exact ⟨rfl, rfl⟩
  · have h' : (n == 32) = false := by simpa using h
    rw [if_neg h]
    clear h
    go_enter Tryd.func25, Tryd.ntmps25
    go_wp2_with fail
    go_ret
    exact ⟨rfl, rfl⟩

theorem u64_wrap_bd (x : Int) : 0 ≤ IntKind.u64.wrap x ∧ IntKind.u64.wrap x ≤ 18446744073709551615 := by
  rw [IntKind.wrap_u64]; omega
end Go.Proofs.YtnfaaiifbiobiaaDoor
