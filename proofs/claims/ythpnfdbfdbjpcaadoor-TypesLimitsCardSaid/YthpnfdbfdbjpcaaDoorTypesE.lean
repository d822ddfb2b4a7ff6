/-
  types: the law's own functions, and the document's texts: contracts.
-/
import Derived.Test.YthpnfdbfdbjpcaaDoorTypesLaw
import Derived.Test.YthpnfdbfdbjpcaaDoorArgs
namespace Go.Proofs.YthpnfdbfdbjpcaaDoor
open Go.RowKit
set_option linter.unusedVariables false

theorem joinN_snoc (t : UInt8) : ∀ l : List UInt8, joinN (l ++ [t]) = if l = [] then nameL t else joinN l ++ (44 :: nameL t)
  | [] => rfl
  | [u] => by simp [joinN]
  | u :: v :: r => by
    have := joinN_snoc t (v :: r)
    rw [if_neg (by simp)] at this ⊢
    rw [List.cons_append, List.cons_append, joinN, ← List.cons_append, this, joinN]
    simp
theorem joinN_len (ts : List UInt8) : (joinN ts).length ≤ 4 * ts.length := by
  rw [← join_joinN]
  have h := join_len (ts.map nameL) (fun x hx => by obtain ⟨t, _, rfl⟩ := List.mem_map.1 hx; exact nameL_len t)
  rw [List.length_map] at h
  exact h

end Go.Proofs.YthpnfdbfdbjpcaaDoor
