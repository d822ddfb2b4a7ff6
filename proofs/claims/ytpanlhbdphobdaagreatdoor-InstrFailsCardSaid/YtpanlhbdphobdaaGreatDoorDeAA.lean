/-
  Blocks in one another, by the codes of the instructions: what the walk over them makes, and what holds of it; in plain Lean.
-/

namespace Go.Proofs.YtpanlhbdphobdaaGreatDoor

/-- the blocks so far: where each begins, its else, its end; those that are open; whether the last end was; how deep they stood -/
structure NS where
  spans : List (Int × Int × Int)
  opn : List Nat
  closed : Bool
  deep : Nat

def opensC (c : Int) : Prop := c = 2 ∨ c = 3 ∨ c = 4
instance (c : Int) : Decidable (opensC c) := by unfold opensC; infer_instance

def spanN (s : NS) (t : Nat) : Int × Int × Int := s.spans.getD t (0, 0, 0)
def codeN (cs : List Int) (i : Int) : Int := cs.getD i.toNat 0

/-- one instruction, at place i: the error's number, the blocks -/
def stepN (cs : List Int) (c : Int) (i : Nat) (s : NS) : Nat × NS :=
  if s.closed then (4, s)
  else if opensC c then
    if s.opn.length = 64 then (15, s)
    else (0, { spans := s.spans ++ [((i : Int), -1, -1)], opn := s.opn ++ [s.spans.length], closed := false, deep := max s.deep (s.opn.length + 1) })
  else if c = 5 then
    match s.opn.getLast? with
    | none => (4, s)
    | some t => if codeN cs (spanN s t).1 = 4 ∧ (spanN s t).2.1 = -1 then (0, { s with spans := s.spans.set t ((spanN s t).1, (i : Int), (spanN s t).2.2) }) else (4, s)
  else if c = 11 then
    match s.opn.getLast? with
    | none => (0, { s with closed := true })
    | some t => (0, { s with spans := s.spans.set t ((spanN s t).1, (spanN s t).2.1, (i : Int)), opn := s.opn.dropLast })
  else (0, s)

def initN : NS := ⟨[], [], false, 0⟩

/-- the instructions from place i on: where it ends, the error's number, the blocks -/
def goN (cs : List Int) : List Int → Nat → NS → Nat × Nat × NS
  | [], i, s => if s.closed then (0, 0, s) else (i, 4, s)
  | c :: r, i, s => if (stepN cs c i s).1 ≠ 0 then (i, (stepN cs c i s).1, (stepN cs c i s).2) else goN cs r (i + 1) (stepN cs c i s).2

/-- what holds of the blocks ahead of place i -/
structure NInv (cs : List Int) (i : Nat) (s : NS) : Prop where
  cnt : s.spans.length = ((cs.take i).filter (fun c => decide (opensC c))).length
  beg : ∀ (j : Nat) x, s.spans[j]? = some x → 0 ≤ x.1 ∧ x.1 < i ∧ opensC (codeN cs x.1)
  inc : ∀ (k j : Nat) x y, k < j → s.spans[k]? = some x → s.spans[j]? = some y → x.1 < y.1
  els : ∀ (j : Nat) x, s.spans[j]? = some x → x.2.1 = -1 ∨ (x.1 < x.2.1 ∧ x.2.1 < i ∧ codeN cs x.2.1 = 5 ∧ codeN cs x.1 = 4 ∧ (j ∈ s.opn ∨ x.2.1 < x.2.2))
  olt : ∀ t ∈ s.opn, t < s.spans.length
  oinc : s.opn.Pairwise (· < ·)
  cls : ∀ (j : Nat) x, s.spans[j]? = some x → j ∉ s.opn → x.1 < x.2.2 ∧ x.2.2 < i ∧ codeN cs x.2.2 = 11
  nest : ∀ (k j : Nat) x y, k < j → s.spans[k]? = some x → s.spans[j]? = some y → k ∉ s.opn → x.2.2 < y.1 ∨ (j ∉ s.opn ∧ y.2.2 < x.2.2)
  clo : s.closed = true → s.opn = []

theorem NInv.init (cs : List Int) : NInv cs 0 initN := by
  constructor <;> simp [initN]

theorem getLast_mem {α : Type} {l : List α} {t : α} (h : l.getLast? = some t) : t ∈ l := List.mem_of_getLast? h
theorem last_max {l : List Nat} {t : Nat} (hp : l.Pairwise (· < ·)) (h : l.getLast? = some t) : ∀ x ∈ l, x ≤ t := by
  obtain ⟨r, rfl⟩ := List.getLast?_eq_some_iff.1 h
  intro x hx
  rw [List.pairwise_append] at hp
  rcases List.mem_append.1 hx with h1 | h1
  · exact Nat.le_of_lt (hp.2.2 x h1 t (by simp))
  · simp at h1; omega
theorem drop_last {l : List Nat} {t : Nat} (hp : l.Pairwise (· < ·)) (h : l.getLast? = some t) : ∀ x, x ∈ l.dropLast ↔ x ∈ l ∧ x ≠ t := by
  obtain ⟨r, rfl⟩ := List.getLast?_eq_some_iff.1 h
  intro x
  rw [List.pairwise_append] at hp
  simp only [List.dropLast_concat, List.mem_append, List.mem_singleton]
  constructor
  · intro hx
    exact ⟨.inl hx, fun e => by subst e; have := hp.2.2 x hx x (by simp); omega⟩
  · rintro ⟨h1 | h1, h2⟩
    · exact h1
    · exact absurd h1 h2

theorem NInv.step {cs : List Int} {i : Nat} {s : NS} {c : Int} (h : NInv cs i s) (hc : cs[i]? = some c) (he : (stepN cs c i s).1 = 0) : NInv cs (i + 1) (stepN cs c i s).2 := by
  have hcode : codeN cs (i : Int) = c := by
    unfold codeN
    rw [Int.toNat_natCast, List.getD_eq_getElem?_getD, hc]
    rfl
  obtain ⟨hil, hcv⟩ := List.getElem?_eq_some_iff.1 hc
  have htake : ((cs.take (i + 1)).filter (fun c => decide (opensC c))).length = ((cs.take i).filter (fun c => decide (opensC c))).length + (if opensC c then 1 else 0) := by
    rw [List.take_succ_eq_append_getElem hil, hcv, List.filter_append, List.length_append]
    by_cases ho : opensC c <;> simp [ho]
  by_cases hcl : s.closed = true
  · unfold stepN at he; rw [if_pos hcl] at he; cases he
  · by_cases ho : opensC c
    · by_cases h64 : s.opn.length = 64
      · unfold stepN at he; rw [if_neg hcl, if_pos ho, if_pos h64] at he; cases he
      · have e : (stepN cs c i s).2 = { spans := s.spans ++ [((i : Int), -1, -1)], opn := s.opn ++ [s.spans.length], closed := false, deep := max s.deep (s.opn.length + 1) } := by
          unfold stepN; rw [if_neg hcl, if_pos ho, if_neg h64]
        rw [e]
        have hsp : ∀ (j : Nat) x, (s.spans ++ [((i : Int), -1, -1)])[j]? = some x → (j < s.spans.length ∧ s.spans[j]? = some x) ∨ (j = s.spans.length ∧ x = ((i : Int), -1, -1)) := by
          intro j x hx
          by_cases hj : j < s.spans.length
          · rw [List.getElem?_append_left hj] at hx; exact .inl ⟨hj, hx⟩
          · rw [List.getElem?_append_right (by omega)] at hx
            have := (List.getElem?_eq_some_iff.1 hx).1
            simp at this
            rw [show j - s.spans.length = 0 from by omega] at hx
            exact .inr ⟨by omega, by simpa using hx.symm⟩
        refine ⟨?_, ?_, ?_, ?_, ?_, ?_, ?_, ?_, ?_⟩
        · rw [htake, if_pos ho, ← h.cnt]; simp
        · intro j x hx
          rcases hsp j x hx with ⟨_, hx⟩ | ⟨_, rfl⟩
          · obtain ⟨a, b, d⟩ := h.beg j x hx
            exact ⟨a, by omega, d⟩
          · exact ⟨by simp, by simp; omega, by show opensC (codeN cs (i : Int)); rw [hcode]; exact ho⟩
        · intro k j x y hkj hx hy
          rcases hsp k x hx with ⟨hk, hx⟩ | ⟨hk, rfl⟩
          · rcases hsp j y hy with ⟨_, hy⟩ | ⟨_, rfl⟩
            · exact h.inc k j x y hkj hx hy
            · exact (h.beg k x hx).2.1
          · rcases hsp j y hy with ⟨hj, hy⟩ | ⟨hj, rfl⟩ <;> omega
        · intro j x hx
          rcases hsp j x hx with ⟨_, hx⟩ | ⟨_, rfl⟩
          · rcases h.els j x hx with a | ⟨a, b, d, e, f⟩
            · exact .inl a
            · exact .inr ⟨a, by omega, d, e, f.elim (fun g => .inl (List.mem_append_left _ g)) .inr⟩
          · exact .inl rfl
        · intro t ht
          simp only [List.length_append, List.length_cons, List.length_nil]
          rcases List.mem_append.1 ht with h1 | h1
          · have := h.olt t h1; omega
          · simp at h1; omega
        · rw [List.pairwise_append]
          refine ⟨h.oinc, by simp, fun a ha b hb => ?_⟩
          simp at hb
          subst hb
          exact h.olt a ha
        · intro j x hx hj
          rcases hsp j x hx with ⟨_, hx⟩ | ⟨hj', rfl⟩
          · obtain ⟨a, b, d⟩ := h.cls j x hx (fun g => hj (List.mem_append_left _ g))
            exact ⟨a, by omega, d⟩
          · exact absurd (List.mem_append_right s.opn (by simp [hj'])) hj
        · intro k j x y hkj hx hy hk
          rcases hsp k x hx with ⟨hk', hx⟩ | ⟨hk', rfl⟩
          · have hk2 : k ∉ s.opn := fun g => hk (List.mem_append_left _ g)
            rcases hsp j y hy with ⟨hj', hy⟩ | ⟨_, rfl⟩
            · rcases h.nest k j x y hkj hx hy hk2 with a | ⟨a, b⟩
              · exact .inl a
              · refine .inr ⟨fun g => ?_, b⟩
                rcases List.mem_append.1 g with g | g
                · exact a g
                · simp at g; omega
            · exact .inl (h.cls k x hx hk2).2.1
          · rcases hsp j y hy with ⟨hj, hy⟩ | ⟨hj, rfl⟩ <;> omega
        · intro g; cases g
    · have htk : ((cs.take (i + 1)).filter (fun c => decide (opensC c))).length = ((cs.take i).filter (fun c => decide (opensC c))).length := by rw [htake, if_neg ho]; rfl
      by_cases h5 : c = 5
      · cases hl : s.opn.getLast? with
        | none => unfold stepN at he; rw [if_neg hcl, if_neg ho, if_pos h5, hl] at he; cases he
        | some t =>
          by_cases hq : codeN cs (spanN s t).1 = 4 ∧ (spanN s t).2.1 = -1
          · have e : (stepN cs c i s).2 = { s with spans := s.spans.set t ((spanN s t).1, (i : Int), (spanN s t).2.2) } := by
              unfold stepN; rw [if_neg hcl, if_neg ho, if_pos h5, hl]; simp only; rw [if_pos hq]
            rw [e]
            have htm := getLast_mem hl
            have htl := h.olt t htm
            have hst : s.spans[t]? = some (spanN s t) := by unfold spanN; rw [List.getD_eq_getElem?_getD, List.getElem?_eq_getElem htl]; rfl
            have hsp : ∀ (j : Nat) x, (s.spans.set t ((spanN s t).1, (i : Int), (spanN s t).2.2))[j]? = some x → (j ≠ t ∧ s.spans[j]? = some x) ∨ (j = t ∧ x = ((spanN s t).1, (i : Int), (spanN s t).2.2)) := by
              intro j x hx
              by_cases hj : j = t
              · subst hj
                rw [List.getElem?_set_self htl] at hx
                exact .inr ⟨rfl, by simpa using hx.symm⟩
              · rw [List.getElem?_set_ne (fun e => hj e.symm)] at hx
                exact .inl ⟨hj, hx⟩
            have hin : ∀ (j : Nat) x, (s.spans.set t ((spanN s t).1, (i : Int), (spanN s t).2.2))[j]? = some x → ∃ y, s.spans[j]? = some y ∧ x.1 = y.1 ∧ x.2.2 = y.2.2 := by
              intro j x hx
              rcases hsp j x hx with ⟨_, hx⟩ | ⟨rfl, rfl⟩
              · exact ⟨x, hx, rfl, rfl⟩
              · exact ⟨_, hst, rfl, rfl⟩
            refine ⟨by rw [htk, ← h.cnt]; simp, ?_, ?_, ?_, by simpa using h.olt, h.oinc, ?_, ?_, h.clo⟩
            · intro j x hx
              obtain ⟨y, hy, e1, _⟩ := hin j x hx
              obtain ⟨a, b, d⟩ := h.beg j y hy
              rw [e1]
              exact ⟨a, by omega, d⟩
            · intro k j x y hkj hx hy
              obtain ⟨x', hx', e1, _⟩ := hin k x hx
              obtain ⟨y', hy', e2, _⟩ := hin j y hy
              rw [e1, e2]
              exact h.inc k j x' y' hkj hx' hy'
            · intro j x hx
              rcases hsp j x hx with ⟨_, hx⟩ | ⟨rfl, rfl⟩
              · rcases h.els j x hx with a | ⟨a, b, d, e, f⟩
                · exact .inl a
                · exact .inr ⟨a, by omega, d, e, f⟩
              · exact .inr ⟨(h.beg _ _ hst).2.1, by simp; omega, by show codeN cs (i : Int) = 5; rw [hcode]; exact h5, hq.1, .inl htm⟩
            · intro j x hx hj
              obtain ⟨y, hy, e1, e2⟩ := hin j x hx
              obtain ⟨a, b, d⟩ := h.cls j y hy hj
              rw [e1, e2]
              exact ⟨a, by omega, d⟩
            · intro k j x y hkj hx hy hk
              obtain ⟨x', hx', e1, e3⟩ := hin k x hx
              obtain ⟨y', hy', e2, e4⟩ := hin j y hy
              rw [e2, e3, e4]
              exact h.nest k j x' y' hkj hx' hy' hk
          · unfold stepN at he; rw [if_neg hcl, if_neg ho, if_pos h5, hl] at he; simp only at he; rw [if_neg hq] at he; cases he
      · by_cases h11 : c = 11
        · cases hl : s.opn.getLast? with
          | none =>
            have e : (stepN cs c i s).2 = { s with closed := true } := by unfold stepN; rw [if_neg hcl, if_neg ho, if_neg h5, if_pos h11, hl]
            rw [e]
            have hnil : s.opn = [] := List.getLast?_eq_none_iff.1 hl
            refine ⟨by rw [htk, ← h.cnt], fun j x hx => ?_, h.inc, fun j x hx => ?_, h.olt, h.oinc, fun j x hx hj => ?_, h.nest, fun _ => hnil⟩
            · obtain ⟨a, b, d⟩ := h.beg j x hx
              exact ⟨a, by omega, d⟩
            · rcases h.els j x hx with a | ⟨a, b, d, e, f⟩
              · exact .inl a
              · exact .inr ⟨a, by omega, d, e, f⟩
            · obtain ⟨a, b, d⟩ := h.cls j x hx hj
              exact ⟨a, by omega, d⟩
          | some t =>
            have e : (stepN cs c i s).2 = { s with spans := s.spans.set t ((spanN s t).1, (spanN s t).2.1, (i : Int)), opn := s.opn.dropLast } := by
              unfold stepN; rw [if_neg hcl, if_neg ho, if_neg h5, if_pos h11, hl]
            rw [e]
            have htm := getLast_mem hl
            have htl := h.olt t htm
            have hst : s.spans[t]? = some (spanN s t) := by unfold spanN; rw [List.getD_eq_getElem?_getD, List.getElem?_eq_getElem htl]; rfl
            have hmax := last_max h.oinc hl
            have hdl := drop_last h.oinc hl
            have hsp : ∀ (j : Nat) x, (s.spans.set t ((spanN s t).1, (spanN s t).2.1, (i : Int)))[j]? = some x → (j ≠ t ∧ s.spans[j]? = some x) ∨ (j = t ∧ x = ((spanN s t).1, (spanN s t).2.1, (i : Int))) := by
              intro j x hx
              by_cases hj : j = t
              · subst hj
                rw [List.getElem?_set_self htl] at hx
                exact .inr ⟨rfl, by simpa using hx.symm⟩
              · rw [List.getElem?_set_ne (fun e => hj e.symm)] at hx
                exact .inl ⟨hj, hx⟩
            have hin : ∀ (j : Nat) x, (s.spans.set t ((spanN s t).1, (spanN s t).2.1, (i : Int)))[j]? = some x → ∃ y, s.spans[j]? = some y ∧ x.1 = y.1 ∧ x.2.1 = y.2.1 := by
              intro j x hx
              rcases hsp j x hx with ⟨_, hx⟩ | ⟨rfl, rfl⟩
              · exact ⟨x, hx, rfl, rfl⟩
              · exact ⟨_, hst, rfl, rfl⟩
            refine ⟨by rw [htk, ← h.cnt]; simp, ?_, ?_, ?_, ?_, ?_, ?_, ?_, fun g => ?_⟩
            · intro j x hx
              obtain ⟨y, hy, e1, _⟩ := hin j x hx
              obtain ⟨a, b, d⟩ := h.beg j y hy
              rw [e1]
              exact ⟨a, by omega, d⟩
            · intro k j x y hkj hx hy
              obtain ⟨x', hx', e1, _⟩ := hin k x hx
              obtain ⟨y', hy', e2, _⟩ := hin j y hy
              rw [e1, e2]
              exact h.inc k j x' y' hkj hx' hy'
            · intro j x hx
              rcases hsp j x hx with ⟨hjt, hx⟩ | ⟨rfl, rfl⟩
              · rcases h.els j x hx with a | ⟨a, b, d, e, f⟩
                · exact .inl a
                · refine .inr ⟨a, by omega, d, e, f.elim (fun g => .inl ((hdl j).2 ⟨g, hjt⟩)) .inr⟩
              · rcases h.els _ _ hst with a | ⟨a, b, d, e, f⟩
                · exact .inl a
                · exact .inr ⟨a, by simp only; omega, d, e, .inr b⟩
            · intro u hu
              rw [List.length_set]
              exact h.olt u ((hdl u).1 hu).1
            · exact List.Pairwise.sublist (List.dropLast_sublist _) h.oinc
            · intro j x hx hj
              rcases hsp j x hx with ⟨hjt, hx⟩ | ⟨rfl, rfl⟩
              · obtain ⟨a, b, d⟩ := h.cls j x hx (fun g => hj ((hdl j).2 ⟨g, hjt⟩))
                exact ⟨a, by omega, d⟩
              · exact ⟨(h.beg _ _ hst).2.1, by simp; omega, by show codeN cs (i : Int) = 11; rw [hcode]; exact h11⟩
            · intro k j x y hkj hx hy hk
              rcases hsp k x hx with ⟨hkt, hx1⟩ | ⟨rfl, rfl⟩
              · have hk2 : k ∉ s.opn := fun g => hk ((hdl k).2 ⟨g, hkt⟩)
                rcases hsp j y hy with ⟨hjt, hy⟩ | ⟨rfl, rfl⟩
                · rcases h.nest k j x y hkj hx1 hy hk2 with a | ⟨a, b⟩
                  · exact .inl a
                  · exact .inr ⟨fun g => a ((hdl j).1 g).1, b⟩
                · rcases h.nest k _ x _ hkj hx1 hst hk2 with a | ⟨a, b⟩
                  · exact .inl a
                  · exact absurd htm a
              · rcases hsp j y hy with ⟨hjt, hy⟩ | ⟨rfl, rfl⟩
                · have hjo : j ∉ s.opn := fun g => by have := hmax j g; omega
                  exact .inr ⟨fun g => hjo ((hdl j).1 g).1, (h.cls j y hy hjo).2.1⟩
                · omega
            · have := h.clo g
              rw [this] at hl
              cases hl
        · have e : (stepN cs c i s).2 = s := by unfold stepN; rw [if_neg hcl, if_neg ho, if_neg h5, if_neg h11]
          rw [e]
          refine ⟨by rw [htk, ← h.cnt], fun j x hx => ?_, h.inc, fun j x hx => ?_, h.olt, h.oinc, fun j x hx hj => ?_, h.nest, h.clo⟩
          · obtain ⟨a, b, d⟩ := h.beg j x hx
            exact ⟨a, by omega, d⟩
          · rcases h.els j x hx with a | ⟨a, b, d, e, f⟩
            · exact .inl a
            · exact .inr ⟨a, by omega, d, e, f⟩
          · obtain ⟨a, b, d⟩ := h.cls j x hx hj
            exact ⟨a, by omega, d⟩

theorem goN_inv (cs : List Int) : ∀ (r : List Int) (i : Nat) (s : NS), cs.drop i = r → NInv cs i s → (goN cs r i s).2.1 = 0 → NInv cs cs.length (goN cs r i s).2.2 ∧ (goN cs r i s).2.2.closed = true := by
  intro r
  induction r with
  | nil =>
    intro i s hd h he
    have hl : cs.length ≤ i := by
      have := congrArg List.length hd
      simp at this
      omega
    unfold goN at he ⊢
    by_cases hc : s.closed = true
    · rw [if_pos hc]
      refine ⟨?_, hc⟩
      simp only
      have hcl : ∀ x, codeN cs x ≠ 0 → 0 ≤ x → x < cs.length := by
        intro x hx h0
        apply Decidable.byContradiction
        intro hn
        apply hx
        unfold codeN
        rw [List.getD_eq_getElem?_getD, List.getElem?_eq_none (by omega)]
        rfl
      refine ⟨by rw [h.cnt, List.take_of_length_le hl, List.take_of_length_le (Nat.le_refl _)], fun j x hx => ?_, h.inc, fun j x hx => ?_, h.olt, h.oinc, fun j x hx hj => ?_, h.nest, h.clo⟩
      · obtain ⟨a, b, d⟩ := h.beg j x hx
        refine ⟨a, hcl _ (fun e => ?_) a, d⟩
        rw [e] at d
        unfold opensC at d
        omega
      · rcases h.els j x hx with a | ⟨a, b, d, e, f⟩
        · exact .inl a
        · refine .inr ⟨a, hcl _ (fun g => by omega) ?_, d, e, f⟩
          have := (h.beg j x hx).1
          omega
      · obtain ⟨a, b, d⟩ := h.cls j x hx hj
        refine ⟨a, hcl _ (fun g => by omega) ?_, d⟩
        have := (h.beg j x hx).1
        omega
    · rw [if_neg hc] at he
      cases he
  | cons c r ih =>
    intro i s hd h he
    have hc : cs[i]? = some c := by
      have := congrArg (·[0]?) hd
      simpa using this
    unfold goN at he ⊢
    by_cases hz : (stepN cs c i s).1 ≠ 0
    · rw [if_pos hz] at he
      exact absurd he hz
    · rw [if_neg hz] at he ⊢
      refine ih (i + 1) _ ?_ (h.step hc (by omega)) he
      rw [← List.drop_drop, hd]
      rfl
end Go.Proofs.YtpanlhbdphobdaaGreatDoor
