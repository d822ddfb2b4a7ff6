/-
  A slice of one-cell elements that the program writes out: as a list; over any program.
-/
import Derived.Test.YtdhmkapknaphpaaRowTab
import Derived.Test.YtdhmkapknaphpaaBase
namespace Go.Proofs.Ytdhmkapknaphpaa
open Go.RowKit
set_option linter.unusedVariables false

theorem fill_ones (size : Nat) (hs : size = 1) : ∀ (vs : List Value) (k : Nat) (pre post : List Value), (∀ v ∈ vs, v.cells = #[v]) → pre.length = k → post.length = vs.length →
    Instr.fill (fun i => some (i * size, size)) (pre ++ post).toArray ((vs.zipIdx k).map fun x => (x.2, x.1)) = some (pre ++ vs).toArray := by
  subst hs
  intro vs
  induction vs with
  | nil => intro k pre post _ hp hq; have : post = [] := List.eq_nil_of_length_eq_zero (by simpa using hq); subst this; simp [Instr.fill]
  | cons v t ih =>
    intro k pre post h1 hp hq
    cases post with
    | nil => simp at hq
    | cons p ps =>
      have hv := h1 v (by simp)
      rw [List.zipIdx_cons, List.map_cons, Instr.fill]
      simp only [Nat.mul_one]
      rw [if_neg (by simp [hv, hp])]
      have hf : (v.cells.zipIdx.foldl (fun (cs : Array Value) (x : Value × Nat) => cs.setIfInBounds (k + x.2) x.1) (pre ++ p :: ps).toArray) = ((pre ++ [v]) ++ ps).toArray := by
        rw [hv]
        have := fold_mid [v] 0 k pre [p] ps rfl (by omega)
        rw [← Array.foldl_toList, Array.toList_zipIdx]
        simpa using this
      rw [hf]
      have := ih (k + 1) (pre ++ [v]) ps (fun u hu => h1 u (by simp [hu])) (by simp [hp]) (by simpa using hq)
      simp only [Nat.mul_one] at this
      rw [this]
      simp

theorem run_buildSlice_ones {P : Program} {t e : TypeId} {bytes : Nat} (hE : IsElem P t e 1 bytes) (vs : List Value) (n : Nat) (hn : vs.length = n) (hn2 : n ≤ 10000) (h1 : ∀ v ∈ vs, v.cells = #[v]) (w : World) :
    (Instr.buildSlice t n ((vs.zipIdx.map fun x => (x.2, x.1)).toArray)).run P w = .ok (.slice (some ⟨w.heap.size, 0, none⟩) n n) (w.alloc (.cells vs.toArray e)) := by
  subst hn
  obtain ⟨ht, i, z, hi, hz, hsize, hby, hzs, hsz⟩ := hE
  have hz0 : ∀ W, (zeroValue e).run P W = .ok z W := fun W => by simp [zeroValue, typeInfo, hi, hz]
  have hcells : ∀ (cs : Array Value), cs.size = vs.length → Instr.fill (fun k => some (k, 1)) cs (vs.zipIdx.map fun x => (x.2, x.1)) = some vs.toArray := fun cs hcs => by
    have := fill_ones 1 rfl vs 0 [] cs.toList h1 rfl (by rw [Array.length_toList, hcs])
    simpa using this
  simp only [Instr.buildSlice, Sem.run_bind, run_underlying ht, Result.andThen_ok, sizeOf, typeInfo, Sem.run_pure]
  by_cases h0 : vs.length = 0
  · have hv : vs = [] := List.eq_nil_of_length_eq_zero h0
    subst hv
    simp [hi, Instr.fill, newRow, go_sem]
  · simp [hi, h0, hsize, hz0, newRow, go_sem]
    rw [if_neg (by omega), hcells _ (by simp)]
    simp [go_sem]

theorem wpList_buildSlice_ones {P : Program} {ops : Array Oper} {rest : List Oper} {o : Oper} {a : Act} {w : World} {Q : Exit → Act → World → Prop} (hg : o.guard = none) (t : TypeId) (n : Nat) (parts : Array (Nat × Operand)) (ho : o.op = .buildSlice t n parts)
    {e : TypeId} {bytes : Nat} (hE : IsElem P t e 1 bytes) (vs : List Value) (hn : vs.length = n) (hn2 : n ≤ 10000) (h1 : ∀ v ∈ vs, v.cells = #[v])
    (hp : parts.toList.map (fun x => (x.1, a.eval x.2)) = vs.zipIdx.map fun x => (x.2, x.1))
    (h : wpList P ops Q rest (a.put o.dst (.slice (some ⟨w.heap.size, 0, none⟩) n n)) (w.alloc (.cells vs.toArray e))) : wpList P ops Q (o :: rest) a w := by
  refine wpList_plain hg fun K hK => ?_
  have hb := run_buildSlice_ones (P := P) hE vs n hn hn2 h1 w
  have hpp : (parts.map fun (i, x) => (i, a.eval x)) = (vs.zipIdx.map fun x => (x.2, x.1)).toArray := by
    apply Array.toList_inj.1
    rw [Array.toList_map]
    exact hp
  unfold Oper.wp execOp
  simp only [ho, hpp, hb, Sem.run_bind, Result.andThen_ok]
  exact hK _ _ h
end Go.Proofs.Ytdhmkapknaphpaa
