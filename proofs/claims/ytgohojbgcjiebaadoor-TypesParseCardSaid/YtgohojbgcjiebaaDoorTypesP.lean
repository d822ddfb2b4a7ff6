/-
  types: TypesPrint: the walk.
-/
import Derived.Test.YtgohojbgcjiebaaDoorTypesG
import Derived.Test.YtgohojbgcjiebaaDoorRegionR
import Derived.Test.YtgohojbgcjiebaaDoorRegionT
namespace Go.Proofs.YtgohojbgcjiebaaDoor
open Go.RowKit
set_option linter.unusedVariables false

theorem nameL_good {t t' : UInt8} (h : goodT t) (e : nameL t = nameL t') : t = t' := by
  rcases name_good h with ⟨h1, h2⟩ | ⟨h1, h2⟩
  · rw [h1] at e
    unfold nameL at e
    split at e
    · rename_i h3; rw [h2]; exact (UInt8.toNat_inj.1 h3).symm
    · split at e
      · simp at e
      · simp at e
  · rw [h1] at e
    unfold nameL at e
    split at e
    · simp at e
    · split at e
      · rename_i h3; rw [h2]; exact (UInt8.toNat_inj.1 h3).symm
      · simp at e
theorem nameL_ne (t : UInt8) : nameL t ≠ [] := by
  unfold nameL; split
  · simp
  · split <;> simp
theorem names_inj : ∀ {ps qs : List UInt8}, (∀ t ∈ ps, goodT t) → ps.map nameL = qs.map nameL → ps = qs
  | [], [], _, _ => rfl
  | [], q :: qs, _, e => by simp at e
  | p :: ps, [], _, e => by simp at e
  | p :: ps, q :: qs, h, e => by
    simp only [List.map_cons, List.cons.injEq] at e
    rw [nameL_good (h p (by simp)) e.1, names_inj (fun t ht => h t (by simp [ht])) e.2]
theorem listL_inj {ps qs : List UInt8} (h : ∀ t ∈ ps, goodT t) (e : listL ps = listL qs) : ps = qs := by
  have hw := words_list ps
  rw [e, words_list qs] at hw
  by_cases h1 : ps = []
  · by_cases h2 : qs = []
    · rw [h1, h2]
    · rw [if_neg h2, if_pos h1] at hw
      cases qs with
      | nil => exact absurd rfl h2
      | cons q l =>
        simp only [List.map_cons, List.cons.injEq] at hw
        exact absurd hw.1 (nameL_ne q)
  · by_cases h2 : qs = []
    · rw [if_pos h2, if_neg h1] at hw
      cases ps with
      | nil => exact absurd rfl h1
      | cons q l =>
        simp only [List.map_cons, List.cons.injEq] at hw
        exact absurd hw.1.symm (nameL_ne q)
    · rw [if_neg h1, if_neg h2] at hw
      exact names_inj h hw.symm
theorem sigL_inj {ps rs qs ss : List UInt8} (h1 : ∀ t ∈ ps, goodT t) (h2 : ∀ t ∈ rs, goodT t) (e : sigL ps rs = sigL qs ss) : ps = qs ∧ rs = ss := by
  have hc := cut_sig ps rs
  rw [e, cut_sig qs ss] at hc
  simp only [Prod.mk.injEq, and_true] at hc
  exact ⟨listL_inj h1 hc.1.symm, listL_inj h2 hc.2.symm⟩
/-- a signature's text is one's just if it is right -/
theorem sigOk_iff (ps rs : List UInt8) : sigOk (sigL ps rs) = (fewT ps && fewT rs) := by
  cases hq : (fewT ps && fewT rs) with
  | true =>
    obtain ⟨h1, h2⟩ := Bool.and_eq_true_iff.1 hq
    exact (sig_back ps rs h1 h2).1
  | false =>
    cases hs : sigOk (sigL ps rs) with
    | false => rfl
    | true =>
      unfold sigOk at hs
      obtain ⟨h12, h3⟩ := Bool.and_eq_true_iff.1 hs
      obtain ⟨h1, h2⟩ := Bool.and_eq_true_iff.1 h12
      obtain ⟨e1, e2⟩ := sigL_inj ((fewT_iff _).1 h1).2 ((fewT_iff _).1 h2).2 (of_decide_eq_true h3)
      rw [e1] at h1
      rw [e2] at h2
      rw [h1, h2] at hq
      cases hq
end Go.Proofs.YtgohojbgcjiebaaDoor
