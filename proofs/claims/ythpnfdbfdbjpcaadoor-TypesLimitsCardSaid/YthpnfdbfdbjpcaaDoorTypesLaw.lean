/-
  Signatures told, and read again; in plain Lean.
-/
import Derived.Test.YthpnfdbfdbjpcaaDoorTypesD
namespace Go.Proofs.YthpnfdbfdbjpcaaDoor
open Go.RowKit
set_option linter.unusedVariables false

theorem index_at {c : UInt8} {s' rest : List UInt8} : ∀ x : List UInt8, c ∉ x → Lib.index (x ++ ((c :: s') ++ rest)) (c :: s') = (x.length : Int) := by
  intro x
  induction x with
  | nil =>
    intro _
    simp only [List.nil_append, List.cons_append]
    rw [Lib.index, if_pos]
    · rfl
    · exact List.isPrefixOf_iff_prefix.2 ⟨rest, rfl⟩
  | cons b x ih =>
    intro h
    have hb : ¬ c = b := fun e => h (by simp [e])
    have hx := ih (fun e => h (by simp [e]))
    rw [List.cons_append, Lib.index, if_neg, hx, if_neg]
    · simp
    · simp <;> omega
    · simp only [List.isPrefixOf, Bool.and_eq_true, beq_iff_eq, not_and]
      exact fun e => absurd e hb
theorem index_none {c : UInt8} : ∀ x : List UInt8, c ∉ x → Lib.index x [c] = -1 := by
  intro x
  induction x with
  | nil => intro _; rfl
  | cons b x ih =>
    intro h
    have hb : ¬ c = b := fun e => h (by simp [e])
    have hx := ih (fun e => h (by simp [e]))
    rw [Lib.index, if_neg, hx, if_pos]
    · simp
    · simp only [List.isPrefixOf, Bool.and_eq_true, beq_iff_eq, not_and]
      exact fun e => absurd e hb
theorem cut_at {c : UInt8} {s' rest : List UInt8} (x : List UInt8) (h : c ∉ x) : Lib.cut (x ++ ((c :: s') ++ rest)) (c :: s') = (x, rest, true) := by
  unfold Lib.cut
  rw [index_at x h, if_pos (by omega)]
  have e : ((x.length : Int)).toNat = x.length := by omega
  rw [e, List.take_left]
  congr 2
  rw [← List.append_assoc, ← List.length_append, List.drop_left]

def joinN : List UInt8 → List UInt8
  | [] => []
  | [t] => nameL t
  | t :: u :: r => nameL t ++ (44 :: joinN (u :: r))
theorem joinTail_cons (sep y : List UInt8) (r : List (List UInt8)) : Lib.joinTail sep (y :: r) = sep ++ y ++ Lib.joinTail sep r := by simp [Lib.joinTail]
theorem join_joinN : ∀ ts : List UInt8, Lib.join (ts.map nameL) [44] = joinN ts := by
  intro ts
  cases ts with
  | nil => rfl
  | cons t r =>
    rw [List.map_cons, Lib.join_cons]
    induction r generalizing t with
    | nil => simp [Lib.joinTail, joinN]
    | cons u r ih =>
      rw [List.map_cons, joinTail_cons, joinN, ← ih u]
      simp
theorem listL_eq (ts : List UInt8) : listL ts = 40 :: (joinN ts ++ [41]) := by unfold listL; rw [join_joinN]

def goodT (t : UInt8) : Prop := t.toNat = 127 ∨ t.toNat = 126
theorem good_of {ts : List UInt8} (h : ts.any badT = false) : ∀ t ∈ ts, goodT t := by
  intro t ht
  have := (List.any_eq_false.1 h) t ht
  unfold goodT
  unfold badT at this
  simp at this
  omega
theorem any_of_good {ts : List UInt8} (h : ∀ t ∈ ts, goodT t) : ts.any badT = false := by
  rw [List.any_eq_false]
  intro t ht
  have := h t ht
  unfold goodT at this
  unfold badT
  rcases this with e | e <;> simp [e]
theorem fewT_iff (ts : List UInt8) : fewT ts = true ↔ ts.length ≤ 20 ∧ ∀ t ∈ ts, goodT t := by
  unfold fewT
  rw [Bool.and_eq_true, decide_eq_true_eq, Bool.not_eq_true']
  exact ⟨fun h => ⟨h.1, good_of h.2⟩, fun h => ⟨h.1, any_of_good h.2⟩⟩
theorem name_good {t : UInt8} (h : goodT t) : nameL t = [105, 51, 50] ∧ t = 127 ∨ nameL t = [105, 54, 52] ∧ t = 126 := by
  rcases h with h | h
  · left; exact ⟨if_pos h, UInt8.toNat_inj.1 h⟩
  · right
    refine ⟨?_, UInt8.toNat_inj.1 h⟩
    unfold nameL
    rw [if_neg (by omega), if_pos h]
theorem wordT_name {t : UInt8} (h : goodT t) : wordT (nameL t) = some t := by
  rcases name_good h with ⟨e, rfl⟩ | ⟨e, rfl⟩ <;> rw [e] <;> rfl
theorem nameL_no (c : UInt8) (hc : c = 44 ∨ c = 45 ∨ c = 40 ∨ c = 41) (t : UInt8) : c ∉ nameL t := by
  unfold nameL
  rcases hc with rfl | rfl | rfl | rfl <;> split <;> (try split) <;> decide
theorem joinN_no (c : UInt8) (hc : c = 45 ∨ c = 40 ∨ c = 41) : ∀ ts : List UInt8, c ∉ joinN ts
  | [] => by simp [joinN]
  | [t] => nameL_no c (by rcases hc with h | h | h <;> simp [h]) t
  | t :: u :: r => by
    have h1 := nameL_no c (by rcases hc with h | h | h <;> simp [h]) t
    have h2 := joinN_no c hc (u :: r)
    rw [joinN]
    simp only [List.mem_append, List.mem_cons, not_or]
    exact ⟨h1, by rcases hc with rfl | rfl | rfl <;> decide, h2⟩
theorem listL_no45 (ts : List UInt8) : (45 : UInt8) ∉ listL ts := by
  rw [listL_eq]
  have := joinN_no 45 (.inl rfl) ts
  simp only [List.mem_cons, List.mem_append, List.not_mem_nil, or_false, not_or]
  exact ⟨by decide, this, by decide⟩
theorem cut_sig (ps rs : List UInt8) : Lib.cut (sigL ps rs) [45, 62] = (listL ps, listL rs, true) := by
  unfold sigL
  rw [List.append_assoc]
  exact cut_at (listL ps) (listL_no45 ps)

theorem dropW_none {p : UInt8 → Bool} {l : List UInt8} (h : ∀ c ∈ l, p c = false) : l.dropWhile p = l := by
  cases l with
  | nil => rfl
  | cons b l => rw [List.dropWhile_cons_of_neg (by rw [h b (by simp)]; simp)]
theorem trim_list (j : List UInt8) (h : ∀ c ∈ j, ([40, 41] : List UInt8).contains c = false) : Lib.trimS (40 :: (j ++ [41])) [40, 41] = j := by
  unfold Lib.trimS Lib.trimLeftS Lib.trimRightS
  have hr : (40 :: (j ++ [41]) : List UInt8).reverse = 41 :: (j.reverse ++ [40]) := by simp
  rw [hr, List.dropWhile_cons_of_pos (by decide)]
  cases hj : j.reverse with
  | nil =>
    have : j = [] := by simpa using hj
    subst this
    rfl
  | cons z q =>
    have hz : ([40, 41] : List UInt8).contains z = false := h z (by
      have : z ∈ j.reverse := by rw [hj]; simp
      simpa using this)
    rw [List.cons_append, List.dropWhile_cons_of_neg (by rw [hz]; simp)]
    have hb : (z :: (q ++ [40])).reverse = 40 :: j := by
      have : (z :: q).reverse = j := by rw [← hj]; simp
      rw [← List.cons_append, List.reverse_append, this]
      rfl
    rw [hb, List.dropWhile_cons_of_pos (by decide)]
    exact dropW_none h
theorem trim_listL (ts : List UInt8) : Lib.trimS (listL ts) [40, 41] = joinN ts := by
  rw [listL_eq]
  refine trim_list _ fun c hc => ?_
  have h1 := joinN_no 40 (.inr (.inl rfl)) ts
  have h2 := joinN_no 41 (.inr (.inr rfl)) ts
  simp only [List.contains_cons, List.contains_nil, Bool.or_false, Bool.or_eq_false_iff, beq_eq_false_iff_ne]
  exact ⟨fun e => h1 (e ▸ hc), fun e => h2 (e ▸ hc)⟩
theorem count_join : ∀ ts : List UInt8, (joinN ts).count 44 = ts.length - 1
  | [] => rfl
  | [t] => by
    rw [joinN, List.count_eq_zero.2 (nameL_no 44 (.inl rfl) t)]
    rfl
  | t :: u :: r => by
    rw [joinN, List.count_append, List.count_eq_zero.2 (nameL_no 44 (.inl rfl) t), List.count_cons_self, count_join (u :: r)]
    simp
theorem split_join : ∀ ts : List UInt8, ts ≠ [] → Lib.splitK [44] 0 (ts.length - 1) (joinN ts) = ts.map nameL
  | [], h => absurd rfl h
  | [t], _ => by simp [Lib.splitK, joinN]
  | t :: u :: r, _ => by
    have ih := split_join (u :: r) (by simp)
    have hi : Lib.index (nameL t ++ (44 :: joinN (u :: r))) [44] = ((nameL t).length : Int) := index_at (c := 44) (s' := []) (rest := joinN (u :: r)) (nameL t) (nameL_no 44 (.inl rfl) t)
    have e : (((nameL t).length : Int)).toNat = (nameL t).length := by omega
    have e2 : (t :: u :: r).length - 1 = ((u :: r).length - 1) + 1 := by simp
    rw [joinN, e2, Lib.splitK, hi, if_neg (by simp <;> omega), e, Nat.add_zero, List.take_left, List.map_cons]
    congr 1
    have e3 : (nameL t ++ 44 :: joinN (u :: r)).drop ((nameL t).length + ([44] : List UInt8).length) = joinN (u :: r) := by
      rw [show nameL t ++ 44 :: joinN (u :: r) = (nameL t ++ [44]) ++ joinN (u :: r) from by simp, ← List.length_append, List.drop_left]
    rw [e3]
    exact ih
theorem words_list (ts : List UInt8) : wordsL (listL ts) = if ts = [] then [[]] else ts.map nameL := by
  unfold wordsL
  rw [Lib.splitB_data, trim_listL]
  show Lib.splitK [44] 0 (Lib.count (joinN ts) [44]) (joinN ts) = _
  rw [Lib.count_one, count_join]
  by_cases h : ts = []
  · subst h; rfl
  · rw [if_neg h, split_join ts h]
theorem read_list (ts : List UInt8) (h : ∀ t ∈ ts, goodT t) : readTs (listL ts) = ts := by
  unfold readTs
  rw [words_list]
  by_cases h0 : ts = []
  · subst h0; rfl
  · rw [if_neg h0, List.filterMap_map]
    clear h0
    induction ts with
    | nil => rfl
    | cons t r ih =>
      rw [List.filterMap_cons]
      have := wordT_name (h t (by simp))
      simp only [Function.comp, this]
      rw [ih (fun x hx => h x (by simp [hx]))]

/-- a text is a signature's just if it is that signature's text -/
theorem sig_back (ps rs : List UInt8) (h1 : fewT ps = true) (h2 : fewT rs = true) : sigOk (sigL ps rs) = true ∧ sigP (sigL ps rs) = ps ∧ sigR (sigL ps rs) = rs := by
  have g1 := ((fewT_iff ps).1 h1).2
  have g2 := ((fewT_iff rs).1 h2).2
  have e1 : sigP (sigL ps rs) = ps := by unfold sigP; rw [cut_sig]; exact read_list ps g1
  have e2 : sigR (sigL ps rs) = rs := by unfold sigR; rw [cut_sig]; exact read_list rs g2
  refine ⟨?_, e1, e2⟩
  unfold sigOk
  rw [e1, e2, h1, h2, decide_eq_true rfl]
  rfl
end Go.Proofs.YthpnfdbfdbjpcaaDoor
