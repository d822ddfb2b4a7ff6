/-
  The document's answer on ops: Name: contract; what the program's table tells is what the document tells.
-/
import Derived.Test.YtdhmkapknaphpaaRefOp
import Derived.Test.YtdhmkapknaphpaaBuildSl
import Derived.Test.YtdhmkapknaphpaaOpAll
namespace Go.Proofs.Ytdhmkapknaphpaa
open Go.RowKit
set_option linter.unusedVariables false

def refName (c : Int) : ByteArray :=
  if c = 64522 then ⟨#[109, 101, 109, 111, 114, 121, 46, 99, 111, 112, 121]⟩ else if c = 64523 then ⟨#[109, 101, 109, 111, 114, 121, 46, 102, 105, 108, 108]⟩
  else if c < 0 ∨ 196 < c then ⟨#[]⟩ else refNames.getD c.toNat ⟨#[]⟩

theorem string_elem : IsElem Try.prog 135 9 1 16 := IsElem.mk' Try.underlying135 (z := .string ⟨#[]⟩) (by kernel_rfl) rfl (by omega)

set_option maxRecDepth 100000 in
set_option maxHeartbeats 3200000 in
theorem refName_any (c : Int) (w : World) (h1 : -9223372036854775808 ≤ c) (h2 : c ≤ 9223372036854775807) :
    Calls Try.prog 38 #[.int .i64 c] w fun e w' => e = .returned (.string (refName c)) ∧ Hid (Below w.heap.size w w') := by
  by_cases e1 : c = 64522
  · subst e1
    have hv : refName 64522 = ⟨#[109, 101, 109, 111, 114, 121, 46, 99, 111, 112, 121]⟩ := rfl
    rw [hv]
    clear hv
    go_enter Try.func38, Try.ntmps38
    go_wp2_with fail
    go_ret
    exact ⟨rfl, Below.refl _ _⟩
  · by_cases e2 : c = 64523
    · subst e2
      have hv : refName 64523 = ⟨#[109, 101, 109, 111, 114, 121, 46, 102, 105, 108, 108]⟩ := rfl
      rw [hv]
      clear hv
      go_enter Try.func38, Try.ntmps38
      go_wp2_with fail
      go_ret
      exact ⟨rfl, Below.refl _ _⟩
    · have f1 : (c == 64522) = false := by simpa using e1
      have f2 : (c == 64523) = false := by simpa using e2
      by_cases e3 : c < 0
      · have hv : refName c = ⟨#[]⟩ := by unfold refName; rw [if_neg e1, if_neg e2, if_pos (.inl e3)]
        rw [hv]
        clear hv e1 e2
        have f3 : decide (c < 0) = true := by simpa using e3
        go_enter Try.func38, Try.ntmps38
        go_wp2_with fail
        go_ret
        exact ⟨rfl, Below.refl _ _⟩
      · have f3 : decide (c < 0) = false := by simpa using e3
        by_cases e4 : 196 < c
        · have hv : refName c = ⟨#[]⟩ := by unfold refName; rw [if_neg e1, if_neg e2, if_pos (.inr e4)]
          rw [hv]
          clear hv e1 e2 e3
          have f4 : decide (196 < c) = true := by simpa using e4
          go_enter Try.func38, Try.ntmps38
          go_wp2_with fail
          go_ret
          exact ⟨rfl, Below.refl _ _⟩
        · have f4 : decide (196 < c) = false := by simpa using e4
          obtain ⟨n, rfl⟩ : ∃ n : Nat, c = n := ⟨c.toNat, by omega⟩
          have hn : n < 197 := by omega
          obtain ⟨nm, hnm⟩ : ∃ nm, refNames[n]? = some nm := ⟨_, List.getElem?_eq_getElem (by simpa [refNames] using hn)⟩
          have hv : refName (n : Int) = nm := by
            unfold refName
            rw [if_neg e1, if_neg e2, if_neg (by omega), Int.toNat_natCast, List.getD_eq_getElem?_getD, hnm]
            rfl
          rw [hv]
          have hcell : (refNames.map Value.string)[n]? = some (.string nm) := by rw [List.getElem?_map, hnm]; rfl
          have hbl : Hid (Below w.heap.size w (w.alloc (.cells (refNames.map Value.string).toArray 9))) := (Below.refl _ _).alloc (Nat.le_refl _) _
          obtain ⟨VS, hVS⟩ : ∃ VS, refNames.map Value.string = VS := ⟨_, rfl⟩
          have hlen : VS.length = 197 := by rw [← hVS]; rfl
          have hone : ∀ v ∈ VS, v.cells = #[v] := by
            intro v hv
            rw [← hVS] at hv
            obtain ⟨s, _, rfl⟩ := List.mem_map.1 hv
            rfl
          rw [hVS] at hcell hbl
          have HL := hide hlen; have HO := hide hone; have HV := hide hVS
          clear hv hnm e1 e2 e3 e4 hlen hone hVS
          go_enter Try.func38, Try.ntmps38
          go_wp2_with (refine wpList_buildSlice_ones rfl 135 197 _ rfl string_elem VS HL.out (by omega) HO.out (by rw [← HV.out]; as_aux_lemma => rfl) ?_)
          go_ret
          exact ⟨rfl, hbl⟩

/-- all codes that there are -/
def allCodes : List Int := opRows1.map (·.code) ++ opRows2.map (·.code) ++ opSpans.flatMap (fun s => (List.range s.many.toNat).map (fun i : Nat => s.first + (i : Int)))
theorem opRow_code {c : Int} {r : OpRow} (h : opRow c = some r) : c ∈ allCodes := by
  unfold opRow at h
  unfold allCodes
  cases h1 : opRows1.find? (fun r => r.code == c) with
  | some x =>
    have := List.find?_some h1
    simp only [beq_iff_eq] at this
    simp only [List.mem_append, List.mem_map]
    exact .inl (.inl ⟨x, List.mem_of_find?_eq_some h1, this⟩)
  | none =>
    rw [h1] at h
    cases h2 : opRows2.find? (fun r => r.code == c) with
    | some x =>
      have := List.find?_some h2
      simp only [beq_iff_eq] at this
      simp only [List.mem_append, List.mem_map]
      exact .inl (.inr ⟨x, List.mem_of_find?_eq_some h2, this⟩)
    | none =>
      rw [h2] at h
      simp only [Option.none_or] at h
      unfold numRow at h
      cases h3 : numSpan c with
      | none => rw [h3] at h; cases h
      | some s =>
        have hin : inSpan c s = true := List.find?_some h3
        have hm : s ∈ opSpans := List.mem_of_find?_eq_some h3
        unfold inSpan at hin
        simp only [Bool.and_eq_true, decide_eq_true_eq] at hin
        simp only [List.mem_append, List.mem_flatMap, List.mem_map, List.mem_range]
        exact .inr ⟨s, hm, (c - s.first).toNat, by omega, by omega⟩
/-- what the program's table tells of a code: the document tells the same -/
def codeOk (c : Int) : Bool :=
  match opRow c with
  | none => false
  | some r => decide (r.name = refName c) && r.form == refForm c && !decide (refName c = ⟨#[]⟩) && !refForeign c && !foreignL c && r.code == c
theorem codes_ok : ∀ c ∈ allCodes, codeOk c = true := by decide +kernel
theorem opRow_ref {c : Int} {r : OpRow} (h : opRow c = some r) : r.name = refName c ∧ r.form = refForm c ∧ refName c ≠ ⟨#[]⟩ ∧ refForeign c = false ∧ foreignL c = false ∧ r.code = c := by
  have := codes_ok c (opRow_code h)
  unfold codeOk at this
  rw [h] at this
  simpa [and_assoc] using this
/-- of each code of the document's list of names: there is none, or the program has it -/
theorem names_none : ∀ n : Fin 197, refName ((n.val : Nat) : Int) = ⟨#[]⟩ ∨ (opRow ((n.val : Nat) : Int)).isSome = true := by decide +kernel
theorem opRow_none {c : Int} (h : opRow c = none) : refName c = ⟨#[]⟩ := by
  by_cases e1 : c = 64522
  · subst e1; exact absurd h (by decide +kernel)
  · by_cases e2 : c = 64523
    · subst e2; exact absurd h (by decide +kernel)
    · by_cases e3 : c < 0 ∨ 196 < c
      · unfold refName; rw [if_neg e1, if_neg e2, if_pos e3]
      · rcases names_none ⟨c.toNat, by omega⟩ with h1 | h1
        · simpa [show ((c.toNat : Nat) : Int) = c from by omega] using h1
        · simp only [show ((c.toNat : Nat) : Int) = c from by omega] at h1
          rw [h] at h1
          cases h1
/-- outside the profile: the program's list and the document's -/
theorem foreign_eq (c : Int) : foreignL c = refForeign c := by
  unfold foreignL refForeign opFor
  simp only [List.any_cons, List.any_nil, Bool.or_false]
  split
  · rename_i h
    simp only [Bool.or_eq_true, Bool.and_eq_true, decide_eq_true_eq]
    omega
  · split
    · rename_i h
      simp only [Bool.or_eq_true, Bool.and_eq_true, decide_eq_true_eq]
      omega
    · rename_i h h'
      rw [Bool.eq_false_iff]
      simp only [ne_eq, Bool.or_eq_true, Bool.and_eq_true, decide_eq_true_eq]
      omega
end Go.Proofs.Ytdhmkapknaphpaa
