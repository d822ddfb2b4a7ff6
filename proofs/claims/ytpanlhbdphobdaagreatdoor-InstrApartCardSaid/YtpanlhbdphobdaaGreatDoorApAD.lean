/-
  Arrays of structs that the program writes out, as lists of rows: built, stored, read; over any program.
-/
import Derived.Test.YtpanlhbdphobdaaGreatDoorApAC
import Derived.Deep.WholeRow
import Derived.Laws.Tables
namespace Go.Proofs.YtpanlhbdphobdaaGreatDoor
open Go.RowKit
set_option linter.unusedVariables false

theorem fold_mid : ∀ (xs : List Value) (j : Nat) (off : Nat) (pre mid post : List Value), mid.length = xs.length → pre.length = off + j →
    (xs.zipIdx j).foldl (fun (cs : Array Value) (x : Value × Nat) => cs.setIfInBounds (off + x.2) x.1) (pre ++ mid ++ post).toArray = (pre ++ xs ++ post).toArray := by
  intro xs
  induction xs with
  | nil => intro j off pre mid post hm hp; have : mid = [] := List.eq_nil_of_length_eq_zero (by simpa using hm); subst this; rfl
  | cons x r ih =>
    intro j off pre mid post hm hp
    cases mid with
    | nil => simp at hm
    | cons m ms =>
      rw [List.zipIdx_cons, List.foldl_cons]
      have h1 : ((pre ++ (m :: ms) ++ post).toArray.setIfInBounds (off + j) x) = ((pre ++ [x]) ++ ms ++ post).toArray := by
        rw [List.setIfInBounds_toArray]
        congr 1
        rw [List.append_assoc, List.set_append_right _ _ (by omega), hp]
        simp
      simp only
      rw [h1, ih (j + 1) off (pre ++ [x]) ms post (by simpa using hm) (by simp; omega)]
      simp

theorem fill_rows {α : Type} (dec : α → List Value) (size : Nat) (hd : ∀ a, (dec a).length = size) : ∀ (rs : List α) (k : Nat) (pre post : List Value), pre.length = k * size → post.length = rs.length * size →
    Instr.fill (fun i => some (i * size, size)) (pre ++ post).toArray ((rs.zipIdx k).map fun x => (x.2, Value.agg (dec x.1).toArray)) = some (pre ++ rs.flatMap dec).toArray := by
  intro rs
  induction rs with
  | nil => intro k pre post hp hq; have : post = [] := List.eq_nil_of_length_eq_zero (by simpa using hq); subst this; simp [Instr.fill]
  | cons r t ih =>
    intro k pre post hp hq
    have hl : post.length = size + t.length * size := by rw [hq, List.length_cons, Nat.succ_mul, Nat.add_comm]
    have hpost : post = post.take size ++ post.drop size := (List.take_append_drop _ _).symm
    have hsz : (Value.agg (dec r).toArray).cells.size = size := by show (dec r).toArray.size = size; simp [hd]
    rw [List.zipIdx_cons, List.map_cons, Instr.fill]
    simp only
    rw [if_neg (by simp [hsz, hp, hl])]
    have hf : ((Value.agg (dec r).toArray).cells.zipIdx.foldl (fun (cs : Array Value) (x : Value × Nat) => cs.setIfInBounds (k * size + x.2) x.1) (pre ++ post).toArray) = ((pre ++ dec r) ++ post.drop size).toArray := by
      show ((dec r).toArray.zipIdx.foldl _ _) = _
      rw [← Array.foldl_toList, Array.toList_zipIdx]
      conv => lhs; arg 2; rw [hpost, ← List.append_assoc]
      exact fold_mid (dec r) 0 (k * size) pre (post.take size) (post.drop size) (by rw [List.length_take, hd]; omega) (by omega)
    rw [hf, ih (k + 1) (pre ++ dec r) (post.drop size) (by rw [List.length_append, hd, hp, Nat.succ_mul]) (by rw [List.length_drop]; omega)]
    simp

theorem all_one {α : Type} {D : α → List Value} (h : ∀ a, ∀ u ∈ D a, u.oneCell' = true) (rs : List α) : (rs.flatMap D).toArray.all (·.oneCell') = true := by
  rw [Array.all_eq_true_iff_forall_mem]
  intro u hu
  obtain ⟨a, _, ha⟩ := List.mem_flatMap.1 (by simpa using hu)
  exact h a u ha

/-- an array's type of so many rows of so many cells -/
def IsTab (P : Program) (t e : TypeId) (n size : Nat) : Prop :=
  P.underlying t = some (.array n e) ∧ (P.info? t).map (fun i => (i.zero.map (fun z => z.cells.size), i.size)) = some (some (n * size), n * size) ∧ (P.info? e).map (fun i => i.size) = some size ∧ ∀ w, (isAgg e).run P w = .ok true w

theorem built_rows {P : Program} {α : Type} {t e : TypeId} {n size : Nat} (hT : IsTab P t e n size) (dec : α → List Value) (hd : ∀ a, (dec a).length = size) (rs : List α) (hn : rs.length = n) :
    P.built t (rs.zipIdx.map fun x => (x.2, Value.agg (dec x.1).toArray)) = some (rs.flatMap dec).toArray := by
  obtain ⟨hu, hi, he, _⟩ := hT
  cases h1 : P.info? t with
  | none => rw [h1] at hi; cases hi
  | some i =>
    cases h2 : P.info? e with
    | none => rw [h2] at he; cases he
    | some ie =>
      rw [h1] at hi
      rw [h2] at he
      simp only [Option.map_some, Option.some.injEq, Prod.mk.injEq] at hi he
      cases hz : i.zero with
      | none => rw [hz] at hi; simp at hi
      | some z =>
        rw [hz] at hi
        simp only [Option.map_some, Option.some.injEq] at hi
        have := fill_rows dec size hd rs 0 [] z.cells.toList (by simp) (by simp [hi.1, hn])
        simp only [List.nil_append, Array.toArray_toList] at this
        simp only [Program.built, h1, hu, hz, h2, he]
        exact this

theorem wpList_build_rows {P : Program} {ops : Array Oper} {rest : List Oper} {o : Oper} {a : Act} {w : World} {Q : Exit → Act → World → Prop} (hg : o.guard = none) (t : TypeId) (parts : Array (Nat × Operand)) (ho : o.op = .build t parts)
    {α : Type} {e : TypeId} {n size : Nat} (hT : IsTab P t e n size) (dec : α → List Value) (hd : ∀ a, (dec a).length = size) (rs : List α) (hn : rs.length = n)
    (hp : parts.toList.map (fun x => (x.1, a.eval x.2)) = rs.zipIdx.map fun x => (x.2, Value.agg (dec x.1).toArray))
    (h : wpList P ops Q rest (a.put o.dst (.agg (rs.flatMap dec).toArray)) w) : wpList P ops Q (o :: rest) a w := by
  have hb : P.built t (parts.map fun (i, x) => (i, a.eval x)).toList = some (rs.flatMap dec).toArray := by
    rw [Array.toList_map]
    exact (congrArg (P.built t) hp).trans (built_rows hT dec hd rs hn)
  refine wpList_build hg t parts ho (by rw [hb]; rfl) ?_
  rw [hb]
  exact h

theorem flatMap_at {α : Type} {dec : α → List Value} {size : Nat} (hd : ∀ a, (dec a).length = size) : ∀ (ys : List α) (t j : Nat) (a : α), ys[t]? = some a → j < size → (ys.flatMap dec)[t * size + j]? = (dec a)[j]? := by
  intro ys
  induction ys with
  | nil => intro t j a h; simp at h
  | cons c r ih =>
    intro t j a h hj
    rw [List.flatMap_cons]
    cases t with
    | zero =>
      have : c = a := by simpa using h
      subst this
      rw [Nat.zero_mul, Nat.zero_add, List.getElem?_append_left (by rw [hd]; exact hj)]
    | succ t =>
      rw [List.getElem?_append_right (by rw [hd, Nat.succ_mul]; omega), hd, show (t + 1) * size + j - size = t * size + j from by rw [Nat.succ_mul]; omega]
      exact ih t j a (by simpa using h) hj

/-- a row of an array, by its place -/
theorem run_index_row {P : Program} {α : Type} {t e : TypeId} {n size : Nat} (hT : IsTab P t e n size) (dec : α → List Value) (hd : ∀ a, (dec a).length = size) (rs : List α) (hn : rs.length = n) (k : Nat) (r : α) (hk : rs[k]? = some r) (w : World) :
    (Instr.index t (.agg (rs.flatMap dec).toArray) (.int .i64 k)).run P w = .ok (.agg (dec r).toArray) w := by
  obtain ⟨hu, hi, he, ha⟩ := hT
  have hkn : k < n := by have := (List.getElem?_eq_some_iff.1 hk).1; omega
  cases h2 : P.info? e with
  | none => rw [h2] at he; cases he
  | some ie =>
    rw [h2] at he
    simp only [Option.map_some, Option.some.injEq] at he
    have hx : List.take size (List.drop (k * size) (List.flatMap dec rs)) = dec r := by
      apply List.ext_getElem?
      intro j
      rw [List.getElem?_take]
      by_cases hj : j < size
      · rw [if_pos hj, List.getElem?_drop, flatMap_at hd rs k j r hk hj]
      · rw [if_neg hj, List.getElem?_eq_none (by rw [hd]; omega)]
    simp [Instr.index, run_underlying hu, asIntOf, hkn, part, ha, sizeOf, typeInfo, h2, he, hx, go_sem]

/-- one cell of an array of one-cell elements, by its place -/
theorem run_index_one {P : Program} {t e : TypeId} {n : Nat} (hu : P.underlying t = some (.array n e)) (hs : (P.info? e).map (fun i => i.size) = some 1) (ha : ∀ w, (isAgg e).run P w = .ok false w) (xs : List Value) (hn : xs.length = n) (k : Nat) (v : Value) (hk : xs[k]? = some v) (w : World) :
    (Instr.index t (.agg xs.toArray) (.int .i64 k)).run P w = .ok v w := by
  have hkn : k < n := by have := (List.getElem?_eq_some_iff.1 hk).1; omega
  cases h2 : P.info? e with
  | none => rw [h2] at hs; cases hs
  | some ie =>
    rw [h2] at hs
    simp only [Option.map_some, Option.some.injEq] at hs
    simp [Instr.index, run_underlying hu, asIntOf, hkn, part, ha, sizeOf, typeInfo, h2, hs, hk, go_sem]
theorem IsTab.zero {P : Program} {t e : TypeId} {n size : Nat} (hT : IsTab P t e n size) : ∃ z, (∀ w, (zeroValue t).run P w = .ok z w) ∧ z.cells.size = n * size ∧ (P.info? t).map (·.size) = some (n * size) := by
  obtain ⟨hu, hi, he, ha⟩ := hT
  cases h1 : P.info? t with
  | none => rw [h1] at hi; cases hi
  | some i =>
    rw [h1] at hi
    simp only [Option.map_some, Option.some.injEq, Prod.mk.injEq] at hi
    cases hz : i.zero with
    | none => rw [hz] at hi; simp at hi
    | some z =>
      rw [hz] at hi
      simp only [Option.map_some, Option.some.injEq] at hi
      exact ⟨z, fun w => by simp [zeroValue, typeInfo, h1, hz], hi.1, by simp [hi.2]⟩
end Go.Proofs.YtpanlhbdphobdaaGreatDoor
