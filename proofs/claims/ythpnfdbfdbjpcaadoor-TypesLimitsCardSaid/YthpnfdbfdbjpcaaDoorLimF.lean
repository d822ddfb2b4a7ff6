/-
  types: TypesLimits: the walk, as the row asks.
-/
import Derived.Test.YthpnfdbfdbjpcaaDoorLimE
import Derived.Test.YthpnfdbfdbjpcaaDoorOpens
namespace Go.Proofs.YthpnfdbfdbjpcaaDoor
open Go.RowKit
set_option linter.unusedVariables false

/-- limits, as they lie -/
def limD (a : Int × Int × Bool × Unit) : List Value := [.int .i64 a.1] ++ ([.int .i64 a.2.1] ++ ([.bool a.2.2.1] ++ []))
def limOk (a : Int × Int × Bool × Unit) : Prop := (Lit.int .i64 a.1).wf = true ∧ (Lit.int .i64 a.2.1).wf = true ∧ True ∧ True
set_option maxRecDepth 100000 in
theorem TypesLimits_o0 {H : Type} {enc : TypeId × Value → H} {w : World} : Opens enc Tryd.prog w 23 limD limOk :=
  Opens.struct Tryd.underlying23 (by kernel_rfl) (OpensF.cons (k := 1) rfl (by kernel_rfl) (Opens.int Tryd.underlying3) (OpensF.cons (k := 1) rfl (by kernel_rfl) (Opens.int Tryd.underlying3) (OpensF.cons (k := 1) rfl (by kernel_rfl) (Opens.bool Tryd.underlying4) OpensF.nil)))
theorem i64_bd' {n : Int} (h : (Lit.int .i64 n).wf = true) : -9223372036854775808 ≤ n ∧ n ≤ 9223372036854775807 := i64_bd h
theorem TypesLimits_walk (l : Int × Int × Bool × Unit) (m : Int) (s : ByteArray) (w : World) (wl : limOk l) (wm : (Lit.int .i64 m).wf = true) (hs : s.size ≤ maxLen) (ht : LaidL w) :
    Calls Tryd.prog 3 #[.agg (limD l).toArray, .int .i64 m, .string s] w fun e w' => e = .returned (.bool true) ∧ Below w.heap.size w w' := by
  obtain ⟨k1, k2, _⟩ := wl
  obtain ⟨a0, a1⟩ := i64_bd' k1
  obtain ⟨b0, b1⟩ := i64_bd' k2
  have e : s = ⟨s.data.toList.toArray⟩ := rfl
  rw [e]
  exact tlimits_any l.1 l.2.1 m l.2.2.1 s.data.toList w a0 a1 b0 b1 (by have : s.data.toList.length = s.size := rfl; unfold maxLen at hs; omega) ht
end Go.Proofs.YthpnfdbfdbjpcaaDoor
