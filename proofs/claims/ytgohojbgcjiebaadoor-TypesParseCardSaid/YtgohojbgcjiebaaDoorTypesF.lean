/-
  types: a list of types at a place of a text: the plain law.
-/
import Derived.Test.YtgohojbgcjiebaaDoorTypesP
namespace Go.Proofs.YtgohojbgcjiebaaDoor
open Go.RowKit
set_option linter.unusedVariables false

def preN (l : List UInt8) : List UInt8 := l.flatMap fun t => nameL t ++ [44]
theorem preN_snoc (l : List UInt8) (t : UInt8) : preN (l ++ [t]) = preN l ++ (nameL t ++ [44]) := by simp [preN, List.flatMap_append]
theorem preN_cons (t : UInt8) (l : List UInt8) : preN (t :: l) = nameL t ++ (44 :: preN l) := by simp [preN]
theorem joinN_cons (t : UInt8) : ∀ {r : List UInt8}, r ≠ [] → joinN (t :: r) = nameL t ++ (44 :: joinN r)
  | [], h => absurd rfl h
  | u :: r, _ => rfl
theorem join_pre (t : UInt8) : ∀ l : List UInt8, joinN (l ++ [t]) = preN l ++ nameL t
  | [] => rfl
  | u :: r => by rw [List.cons_append, joinN_cons u (by simp), join_pre t r, preN_cons]; simp
theorem name_len3 {t : UInt8} (h : goodT t) : (nameL t).length = 3 := by
  rcases name_good h with ⟨e, _⟩ | ⟨e, _⟩ <;> rw [e] <;> rfl
theorem name_head {t : UInt8} (h : goodT t) : ∃ a b, nameL t = [105, a, b] := by
  rcases name_good h with ⟨e, _⟩ | ⟨e, _⟩ <;> exact ⟨_, _, e⟩
theorem name_cut {t t' : UInt8} {x y : List UInt8} (h : goodT t) (h' : goodT t') (e : nameL t ++ x = nameL t' ++ y) : t = t' ∧ x = y := by
  obtain ⟨e1, e2⟩ := List.append_inj e (by rw [name_len3 h, name_len3 h'])
  exact ⟨nameL_good h e1, e2⟩
theorem tail_of : ∀ (l l' R rest : List UInt8), (∀ t ∈ l, goodT t) → (∀ t ∈ l', goodT t) → preN l ++ R = joinN l' ++ 41 :: rest →
    ∃ l'', l' = l ++ l'' ∧ R = joinN l'' ++ 41 :: rest ∧ (l = [] ∨ l'' ≠ [])
  | [], l', R, rest, _, _, e => ⟨l', rfl, e, .inl rfl⟩
  | t :: ts, [], R, rest, h, _, e => by
    obtain ⟨a, b, hn⟩ := name_head (h t (by simp))
    rw [preN_cons, hn] at e
    simp [joinN] at e
  | t :: ts, [t'], R, rest, h, h', e => by
    rw [preN_cons, joinN, List.append_assoc] at e
    obtain ⟨_, e2⟩ := name_cut (h t (by simp)) (h' t' (by simp)) e
    simp at e2
  | t :: ts, t' :: u :: r, R, rest, h, h', e => by
    rw [preN_cons, joinN, List.append_assoc, List.append_assoc] at e
    obtain ⟨rfl, e2⟩ := name_cut (h t (by simp)) (h' t' (by simp)) e
    simp only [List.cons_append, List.cons.injEq, true_and] at e2
    obtain ⟨l'', k1, k2, k3⟩ := tail_of ts (u :: r) R rest (fun x hx => h x (by simp [hx])) (fun x hx => h' x (List.mem_cons_of_mem _ hx)) e2
    refine ⟨l'', by rw [k1]; rfl, k2, .inr ?_⟩
    rcases k3 with k3 | k3
    · rw [k3] at k1
      intro hn
      rw [hn] at k1
      cases k1
    · exact k3

/-- no list of types lies at the place -/
def NoList (s : List UInt8) (p : Nat) : Prop := ∀ l rest, (∀ t ∈ l, goodT t) → s.drop p ≠ listL l ++ rest
theorem no_of {s : List UInt8} {p : Nat} {l R : List UInt8} (hl : ∀ t ∈ l, goodT t) (hs : s.drop p = 40 :: (preN l ++ R)) (h1 : ∀ t c rest, goodT t → R = nameL t ++ c :: rest → c ≠ 44 ∧ c ≠ 41) (h2 : l = [] → ∀ rest, R ≠ 41 :: rest) : NoList s p := by
  intro l' rest hg e
  rw [hs, listL_eq] at e
  simp only [List.cons_append, List.append_assoc, List.nil_append, List.cons.injEq, true_and] at e
  obtain ⟨l'', k1, k2, k3⟩ := tail_of l l' R rest hl hg e
  have hg2 : ∀ t ∈ l'', goodT t := fun t ht => hg t (by rw [k1]; exact List.mem_append_right _ ht)
  match l'' with
  | [] =>
    rcases k3 with k3 | k3
    · exact h2 k3 rest k2
    · exact k3 rfl
  | [t] => exact (h1 t 41 rest (hg2 t (by simp)) k2).2 rfl
  | t :: u :: r =>
    rw [joinN, List.append_assoc] at k2
    exact (h1 t 44 _ (hg2 t (by simp)) k2).1 rfl
theorem no_head {s : List UInt8} {p : Nat} (h : ∀ R, s.drop p ≠ 40 :: R) : NoList s p := by
  intro l rest _ e
  rw [listL_eq] at e
  exact h _ (by simpa using e)
theorem list_free {a b x y : List UInt8} (ha : ∀ t ∈ a, goodT t) (hb : ∀ t ∈ b, goodT t) (e : listL a ++ x = listL b ++ y) : a = b ∧ x = y := by
  rw [listL_eq, listL_eq] at e
  simp only [List.cons_append, List.append_assoc, List.nil_append, List.cons.injEq, true_and] at e
  rcases List.eq_nil_or_concat a with rfl | ⟨l, t, rfl⟩
  · cases b with
    | nil => simpa [joinN] using e
    | cons u r =>
      obtain ⟨c, d, hn⟩ := name_head (hb u (by simp))
      cases r with
      | nil => simp [joinN, hn] at e
      | cons v r => simp [joinN, hn] at e
  · rw [List.concat_eq_append] at ha e ⊢
    rw [join_pre, List.append_assoc] at e
    obtain ⟨l'', k1, k2, k3⟩ := tail_of l b _ y (fun x hx => ha x (by simp [hx])) hb e
    have ht := ha t (by simp)
    have hg2 : ∀ t ∈ l'', goodT t := fun t ht => hb t (by rw [k1]; exact List.mem_append_right _ ht)
    match l'' with
    | [] =>
      obtain ⟨c, d, hn⟩ := name_head ht
      rw [hn] at k2
      simp [joinN] at k2
    | [t'] =>
      rw [joinN] at k2
      obtain ⟨rfl, k⟩ := name_cut ht (hg2 t' (by simp)) k2
      simp only [List.cons.injEq, true_and] at k
      exact ⟨k1.symm, k⟩
    | t' :: u :: r =>
      rw [joinN, List.append_assoc] at k2
      obtain ⟨_, k⟩ := name_cut ht (hg2 t' (by simp)) k2
      simp at k

theorem preN_len : ∀ {l : List UInt8}, (∀ t ∈ l, goodT t) → (preN l).length = 4 * l.length
  | [], _ => rfl
  | t :: l, h => by
    rw [preN_cons, List.length_append, List.length_cons, name_len3 (h t (by simp)), preN_len (fun x hx => h x (by simp [hx])), List.length_cons]
    omega
theorem no_short {s : List UInt8} {p : Nat} {l R : List UInt8} (hl : ∀ t ∈ l, goodT t) (hs : s.drop p = 40 :: (preN l ++ R)) (h : R.length < 4) (h2 : l = [] → ∀ rest, R ≠ 41 :: rest) : NoList s p :=
  no_of hl hs (fun t c rest hg e => by
    have := congrArg List.length e
    rw [List.length_append, name_len3 hg, List.length_cons] at this
    omega) h2
theorem no_word {s : List UInt8} {p : Nat} {l : List UInt8} {a b c d : UInt8} {R : List UInt8} (hl : ∀ t ∈ l, goodT t) (hs : s.drop p = 40 :: (preN l ++ a :: b :: c :: d :: R)) (h5 : [a, b, c] ≠ [105, 51, 50]) (h6 : [a, b, c] ≠ [105, 54, 52]) (h2 : l = [] → a ≠ 41) : NoList s p :=
  no_of hl hs (fun t x rest hg e => by
    have e3 : [a, b, c] = nameL t := by
      have := congrArg (List.take 3) e
      rw [List.take_left' (name_len3 hg)] at this
      exact this
    rcases name_good hg with ⟨k, _⟩ | ⟨k, _⟩
    · exact absurd (e3.trans k) h5
    · exact absurd (e3.trans k) h6) (fun h0 rest e => h2 h0 (by injection e))
theorem no_end {s : List UInt8} {p : Nat} {l : List UInt8} {a b c d : UInt8} {R : List UInt8} (hl : ∀ t ∈ l, goodT t) (hs : s.drop p = 40 :: (preN l ++ a :: b :: c :: d :: R)) (h5 : d ≠ 44) (h6 : d ≠ 41) (h2 : l = [] → a ≠ 41) : NoList s p :=
  no_of hl hs (fun t x rest hg e => by
    have e3 : d :: R = x :: rest := by
      have := congrArg (List.drop 3) e
      rw [List.drop_left' (name_len3 hg)] at this
      exact this
    injection e3 with e3
    rw [← e3]
    exact ⟨h5, h6⟩) (fun h0 rest e => h2 h0 (by injection e))
theorem yes_step {s : List UInt8} {p : Nat} {l : List UInt8} {a b c t : UInt8} {R : List UInt8} (hs : s.drop p = 40 :: (preN l ++ a :: b :: c :: 44 :: R)) (h : [a, b, c] = nameL t) : s.drop p = 40 :: (preN (l ++ [t]) ++ R) := by
  rw [hs, preN_snoc, ← h]
  simp
theorem yes_end {s : List UInt8} {p : Nat} {l : List UInt8} {a b c t : UInt8} {R : List UInt8} (hl : ∀ t ∈ l, goodT t) (ht : goodT t) (hs : s.drop p = 40 :: (preN l ++ a :: b :: c :: 41 :: R)) (h : [a, b, c] = nameL t) :
    s.drop p = listL (l ++ [t]) ++ R ∧ (listL (l ++ [t])).length = 4 * l.length + 5 := by
  rw [hs, listL_eq, join_pre]
  refine ⟨by rw [← h]; simp, ?_⟩
  rw [List.length_cons, List.length_append, List.length_append, preN_len hl, name_len3 ht]
  rfl
theorem drop4 {s : List UInt8} {k : Nat} (h : k + 4 ≤ s.length) : ∃ a b c d R, s.drop k = a :: b :: c :: d :: R ∧ s[k]? = some a ∧ s[k + 3]? = some d ∧ s.drop (k + 4) = R := by
  have e0 := List.drop_eq_getElem_cons (show k < s.length by omega)
  have e1 := List.drop_eq_getElem_cons (show k + 1 < s.length by omega)
  have e2 := List.drop_eq_getElem_cons (show k + 2 < s.length by omega)
  have e3 := List.drop_eq_getElem_cons (show k + 3 < s.length by omega)
  exact ⟨_, _, _, _, _, by rw [e0, e1, e2, e3], List.getElem?_eq_getElem _, List.getElem?_eq_getElem _, rfl⟩

/-- what 'types' tells -/
def TyP (s : List UInt8) (p : Nat) (l : List UInt8) (n : Int) : Prop := (n = -1 ∧ l = [] ∧ NoList s p) ∨ (∃ rest, (∀ t ∈ l, goodT t) ∧ s.drop p = listL l ++ rest ∧ n = ((p + (listL l).length : Nat) : Int))

/-- what 'Sig' tells: yes -/
theorem sig_yes {s a b : List UInt8} (ha : ∀ t ∈ a, goodT t) (hb : ∀ t ∈ b, goodT t) (h1 : a.length ≤ 20) (h2 : b.length ≤ 20) (e : s = sigL a b) : sigOk s = true ∧ sigP s = a ∧ sigR s = b := by
  rw [e]
  exact sig_back a b ((fewT_iff _).2 ⟨h1, ha⟩) ((fewT_iff _).2 ⟨h2, hb⟩)
/-- what a signature's text is made of -/
theorem sig_parts {s : List UInt8} (h : sigOk s = true) : ∃ a b, (∀ t ∈ a, goodT t) ∧ (∀ t ∈ b, goodT t) ∧ a.length ≤ 20 ∧ b.length ≤ 20 ∧ s = listL a ++ (45 :: 62 :: listL b) := by
  unfold sigOk at h
  obtain ⟨h12, h3⟩ := Bool.and_eq_true_iff.1 h
  obtain ⟨h1, h2⟩ := Bool.and_eq_true_iff.1 h12
  obtain ⟨n1, g1⟩ := (fewT_iff _).1 h1
  obtain ⟨n2, g2⟩ := (fewT_iff _).1 h2
  refine ⟨sigP s, sigR s, g1, g2, n1, n2, ?_⟩
  have h4 := of_decide_eq_true h3
  conv => lhs; rw [← h4]
  simp [sigL]
end Go.Proofs.YtgohojbgcjiebaaDoor
