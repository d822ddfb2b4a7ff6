/-
  conv: a word of other widths: contracts.
-/
import Derived.Test.YtnfaaiifbiobiaaDoorBits
import Derived.Test.YtnfaaiifbiobiaaDoorCut
namespace Go.Proofs.YtnfaaiifbiobiaaDoor
open Go.RowKit
set_option linter.unusedVariables false

theorem valB_rep (b : Bool) : ∀ k, valB (List.replicate k b) = if b then 2 ^ k - 1 else 0 := by
  intro k
  induction k with
  | zero => simp [valB]
  | succ k ih =>
    rw [List.replicate_succ, valB, ih, Nat.pow_succ]
    have := Nat.one_le_two_pow (n := k)
    cases b <;> simp <;> omega

/-- a word of f bits as one of t bits -/
def extV (f t : Nat) (sg : Bool) (a : Nat) : Nat := a % 2 ^ f + 2 ^ f * (if sg && bitN a (f - 1) then 2 ^ (t - f) - 1 else 0)
theorem extV_bits (f t : Nat) (sg : Bool) (a : Nat) : valB (bitsK a f ++ List.replicate (t - f) (sg && bitN a (f - 1))) = extV f t sg a := by
  unfold extV
  rw [valB_append, valB_bitsK, valB_rep, bitsK_len]

def widthsOk (f t : Int) : Prop := (f = 8 ∨ f = 16 ∨ f = 32) ∧ (t = 32 ∨ t = 64)

end Go.Proofs.YtnfaaiifbiobiaaDoor
