/-
  The document's reading of a number: contracts.
-/
import Derived.Test.YtnfaaiifbiobiaaGreatDoorConvJ
namespace Go.Proofs.YtnfaaiifbiobiaaGreatDoor
open Go.RowKit
set_option linter.unusedVariables false

/-- what Read answers -/
def ReadP (f : Option Nat) (w : World) (e : Ending) (w' : World) : Prop := e = .returned (.tuple #[.int .u64 (f.getD 0 : Nat), .bool f.isSome]) ∧ w = w'

end Go.Proofs.YtnfaaiifbiobiaaGreatDoor
