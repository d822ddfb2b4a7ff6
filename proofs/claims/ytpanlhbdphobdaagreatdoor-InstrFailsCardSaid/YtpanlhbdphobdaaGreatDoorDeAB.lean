/-
  Blocks read within one another, as the document reads them: where they end is where the program's walk ends; in plain Lean.
  Numbers as bytes, in plain Lean: what the program's leb answers, as functions of lists and whole numbers.
-/
import Derived.Test.YtpanlhbdphobdaaGreatDoorDeAA
import Derived.Below
import Derived.Lib.BitFns
namespace Go.Proofs.YtpanlhbdphobdaaGreatDoor
set_option linter.unusedVariables false

/-- a block's instructions from a place on, so deep: where it ends, the error -/
def blockP (cs : List Int) : Nat → Nat → Nat → Nat × Nat
  | 0, at_, _ => (at_, 0)
  | f + 1, at_, deep =>
    match cs[at_]? with
    | none => (at_, 0)
    | some c =>
      if c = 11 ∨ c = 5 then (at_, 0)
      else if c < 2 ∨ 4 < c then blockP cs f (at_ + 1) deep
      else if deep = 64 then (at_, 15)
      else
        let q := blockP cs f (at_ + 1) (deep + 1)
        if q.2 = 0 ∧ cs[q.1]? = some 5 then
          if c ≠ 4 then (q.1, 4)
          else
            let p := blockP cs f (q.1 + 1) (deep + 1)
            if p.2 = 0 ∧ cs[p.1]? = some 5 then (p.1, 4)
            else if p.2 ≠ 0 then p
            else if p.1 = cs.length then (p.1, 4) else blockP cs f (p.1 + 1) deep
        else if q.2 ≠ 0 then q
        else if q.1 = cs.length then (q.1, 4) else blockP cs f (q.1 + 1) deep

theorem blockP_ge (cs : List Int) : ∀ (f at_ deep : Nat), at_ ≤ (blockP cs f at_ deep).1 := by
  intro f
  induction f with
  | zero => intro at_ deep; exact Nat.le_refl _
  | succ f ih =>
    intro at_ deep
    rw [blockP]
    have h1 := ih (at_ + 1) (deep + 1)
    have h2 := ih (at_ + 1) deep
    have h3 := ih ((blockP cs f (at_ + 1) (deep + 1)).1 + 1) (deep + 1)
    have h4 := ih ((blockP cs f (at_ + 1) (deep + 1)).1 + 1) deep
    have h5 := ih ((blockP cs f ((blockP cs f (at_ + 1) (deep + 1)).1 + 1) (deep + 1)).1 + 1) deep
    split
    · exact Nat.le_refl _
    · split
      · exact Nat.le_refl _
      · split
        · omega
        · split
          · exact Nat.le_refl _
          · simp only
            split
            · split
              · show _ ≤ (blockP cs f (at_ + 1) (deep + 1)).1; omega
              · split
                · show _ ≤ (blockP cs f ((blockP cs f (at_ + 1) (deep + 1)).1 + 1) (deep + 1)).1; omega
                · split
                  · omega
                  · split
                    · show _ ≤ (blockP cs f ((blockP cs f (at_ + 1) (deep + 1)).1 + 1) (deep + 1)).1; omega
                    · omega
            · split
              · omega
              · split
                · show _ ≤ (blockP cs f (at_ + 1) (deep + 1)).1; omega
                · omega
theorem blockP_le (cs : List Int) : ∀ (f at_ deep : Nat), at_ ≤ cs.length → (blockP cs f at_ deep).1 ≤ cs.length := by
  intro f
  induction f with
  | zero => intro at_ deep h; exact h
  | succ f ih =>
    intro at_ deep h
    rw [blockP]
    split
    · exact h
    · rename_i c hc
      have hlt : at_ < cs.length := (List.getElem?_eq_some_iff.1 hc).1
      have h1 := ih (at_ + 1) (deep + 1) (by omega)
      have h2 := ih (at_ + 1) deep (by omega)
      split
      · exact h
      · split
        · omega
        · split
          · exact h
          · simp only
            split
            · rename_i hq
              have hlt2 : (blockP cs f (at_ + 1) (deep + 1)).1 < cs.length := (List.getElem?_eq_some_iff.1 hq.2).1
              have h3 := ih ((blockP cs f (at_ + 1) (deep + 1)).1 + 1) (deep + 1) (by omega)
              split
              · show (blockP cs f (at_ + 1) (deep + 1)).1 ≤ _; omega
              · split
                · show (blockP cs f ((blockP cs f (at_ + 1) (deep + 1)).1 + 1) (deep + 1)).1 ≤ _; omega
                · split
                  · omega
                  · split
                    · show (blockP cs f ((blockP cs f (at_ + 1) (deep + 1)).1 + 1) (deep + 1)).1 ≤ _; omega
                    · exact ih _ _ (by omega)
            · split
              · omega
              · split
                · show (blockP cs f (at_ + 1) (deep + 1)).1 ≤ _; omega
                · exact ih _ _ (by omega)

/-- where the walk from a place on ends, and why -/
def goP (cs : List Int) (i : Nat) (s : NS) : Nat × Nat := ((goN cs (cs.drop i) i s).1, (goN cs (cs.drop i) i s).2.1)

theorem goP_step {cs : List Int} {i : Nat} {c : Int} (s : NS) (h : cs[i]? = some c) : goP cs i s = if (stepN cs c i s).1 ≠ 0 then (i, (stepN cs c i s).1) else goP cs (i + 1) (stepN cs c i s).2 := by
  unfold goP
  obtain ⟨hi, hv⟩ := List.getElem?_eq_some_iff.1 h
  rw [List.drop_eq_getElem_cons hi, hv, goN]
  split <;> rfl
theorem goP_end {cs : List Int} {i : Nat} (s : NS) (h : cs.length ≤ i) (hc : s.closed = false) : goP cs i s = (i, 4) := by
  unfold goP
  rw [List.drop_of_length_le h, goN, if_neg (by simp [hc])]

/-- the blocks that were open stay as they are -/
structure Kept (s s' : NS) : Prop where
  opn : s'.opn = s.opn
  closed : s'.closed = false
  len : s.spans.length ≤ s'.spans.length
  sp : ∀ t, t < s.spans.length → spanN s' t = spanN s t
theorem Kept.refl {s : NS} (h : s.closed = false) : Kept s s := ⟨rfl, h, Nat.le_refl _, fun _ _ => rfl⟩
theorem Kept.trans {a b c : NS} (h : Kept a b) (k : Kept b c) : Kept a c := ⟨k.opn.trans h.opn, k.closed, Nat.le_trans h.len k.len, fun t ht => (k.sp t (Nat.lt_of_lt_of_le ht h.len)).trans (h.sp t ht)⟩

theorem spanN_set (s : NS) (t u : Nat) (x : Int × Int × Int) (h : t ≠ u) : spanN { s with spans := s.spans.set u x } t = spanN s t := by
  unfold spanN
  rw [List.getD_eq_getElem?_getD, List.getD_eq_getElem?_getD, List.getElem?_set_ne (Ne.symm h)]
theorem spanN_set_self (s : NS) (t : Nat) (x : Int × Int × Int) (h : t < s.spans.length) : spanN { s with spans := s.spans.set t x } t = x := by
  unfold spanN
  simp [List.getD_eq_getElem?_getD, h]

theorem stepN_five {cs : List Int} {i : Nat} {s : NS} (h : s.closed = false) (ho : s.opn.getLast? = none) : stepN cs 5 i s = (4, s) := by
  unfold stepN opensC
  simp [h, ho]
theorem stepN_eleven {cs : List Int} {i : Nat} {s : NS} (h : s.closed = false) (ho : s.opn.getLast? = none) : stepN cs 11 i s = (0, { s with closed := true }) := by
  unfold stepN opensC
  simp [h, ho]

theorem stepN_five_some {cs : List Int} {i t : Nat} {s : NS} {b e x : Int} (h : s.closed = false) (ho : s.opn.getLast? = some t) (hs : spanN s t = (b, e, x)) :
    stepN cs 5 i s = if codeN cs b = 4 ∧ e = -1 then (0, { s with spans := s.spans.set t (b, (i : Int), x) }) else (4, s) := by
  unfold stepN opensC
  simp [h, ho, hs]
theorem stepN_eleven_some {cs : List Int} {i t : Nat} {s : NS} (h : s.closed = false) (ho : s.opn.getLast? = some t) :
    stepN cs 11 i s = (0, { s with spans := s.spans.set t ((spanN s t).1, (spanN s t).2.1, (i : Int)), opn := s.opn.dropLast }) := by
  unfold stepN opensC
  simp [h, ho]

/-- how the walk goes on behind a block -/
theorem block_walk (cs : List Int) : ∀ (f at_ deep : Nat) (s : NS), cs.length < at_ + f → at_ ≤ cs.length → s.closed = false → s.opn.length = deep → deep ≤ 64 →
    ((blockP cs f at_ deep).2 ≠ 0 → goP cs at_ s = blockP cs f at_ deep) ∧
    ((blockP cs f at_ deep).2 = 0 → (blockP cs f at_ deep).1 = cs.length → goP cs at_ s = (cs.length, 4)) ∧
    ((blockP cs f at_ deep).2 = 0 → (blockP cs f at_ deep).1 < cs.length → (cs[(blockP cs f at_ deep).1]? = some 11 ∨ cs[(blockP cs f at_ deep).1]? = some 5) ∧ ∃ s', Kept s s' ∧ goP cs at_ s = goP cs (blockP cs f at_ deep).1 s') := by
  intro f
  induction f with
  | zero => intro at_ deep s h1 h2; omega
  | succ f ih =>
    intro at_ deep s h1 h2 hcl hd h64
    rw [blockP]
    cases hc : cs[at_]? with
    | none =>
      have hlen : at_ = cs.length := by
        have := List.getElem?_eq_none_iff.1 hc
        omega
      simp only
      refine ⟨fun h => absurd rfl h, fun _ _ => ?_, fun _ h => by omega⟩
      rw [hlen]
      exact goP_end s (Nat.le_refl _) hcl
    | some c =>
      have hlt : at_ < cs.length := (List.getElem?_eq_some_iff.1 hc).1
      simp only
      by_cases hce : c = 11 ∨ c = 5
      · rw [if_pos hce]
        refine ⟨fun h => absurd rfl h, fun _ h => by simp only at h; omega, fun _ _ => ⟨?_, s, Kept.refl hcl, rfl⟩⟩
        rcases hce with rfl | rfl
        · exact .inl hc
        · exact .inr hc
      · rw [if_neg hce]
        by_cases hco : c < 2 ∨ 4 < c
        · rw [if_pos hco]
          have hst : stepN cs c at_ s = (0, s) := by
            have n1 : ¬ opensC c := by unfold opensC; omega
            have n2 : ¬ c = 5 := fun x => hce (.inr x)
            have n3 : ¬ c = 11 := fun x => hce (.inl x)
            unfold stepN
            rw [if_neg (by simp [hcl]), if_neg n1, if_neg n2, if_neg n3]
          have hg : goP cs at_ s = goP cs (at_ + 1) s := by rw [goP_step s hc, hst]; simp
          rw [hg]
          exact ih (at_ + 1) deep s (by omega) (by omega) hcl hd h64
        · rw [if_neg hco]
          have hop : opensC c := by unfold opensC; omega
          by_cases hdd : deep = 64
          · rw [if_pos hdd]
            have hst : stepN cs c at_ s = (15, s) := by
              unfold stepN
              rw [if_neg (by simp [hcl]), if_pos hop, if_pos (by omega)]
            refine ⟨fun _ => ?_, fun h => by simp at h, fun h => by simp at h⟩
            rw [goP_step s hc, hst]
            simp
          · rw [if_neg hdd]
            -- the block is opened
            have hst : stepN cs c at_ s = (0, { spans := s.spans ++ [((at_ : Int), -1, -1)], opn := s.opn ++ [s.spans.length], closed := false, deep := max s.deep (s.opn.length + 1) }) := by
              unfold stepN
              rw [if_neg (by simp [hcl]), if_pos hop, if_neg (by omega)]
            obtain ⟨s1, hs1⟩ : ∃ s1 : NS, s1 = { spans := s.spans ++ [((at_ : Int), -1, -1)], opn := s.opn ++ [s.spans.length], closed := false, deep := max s.deep (s.opn.length + 1) } := ⟨_, rfl⟩
            have hg : goP cs at_ s = goP cs (at_ + 1) s1 := by rw [goP_step s hc, hst, hs1]; simp
            have hs1o : s1.opn = s.opn ++ [s.spans.length] := by rw [hs1]
            have hs1l : s1.spans.length = s.spans.length + 1 := by rw [hs1]; simp
            have hs1t : spanN s1 s.spans.length = ((at_ : Int), -1, -1) := by rw [hs1]; unfold spanN; simp
            have hs1s : ∀ t, t < s.spans.length → spanN s1 t = spanN s t := by
              intro t ht
              rw [hs1]
              unfold spanN
              simp only
              rw [List.getD_eq_getElem?_getD, List.getD_eq_getElem?_getD, List.getElem?_append_left ht]
            have hs1c : s1.closed = false := by rw [hs1]
            rw [hg]
            clear hs1 hst hg
            have hge := blockP_ge cs f (at_ + 1) (deep + 1)
            have hle := blockP_le cs f (at_ + 1) (deep + 1) (by omega)
            obtain ⟨i1, i2, i3⟩ := ih (at_ + 1) (deep + 1) s1 (by omega) (by omega) hs1c (by rw [hs1o]; simp; omega) (by omega)
            obtain ⟨q, hq⟩ : ∃ q, blockP cs f (at_ + 1) (deep + 1) = q := ⟨_, rfl⟩
            rw [hq] at i1 i2 i3 hge hle ⊢
            -- behind an end of it
            have hend : ∀ (s2 : NS) (p : Nat), Kept s1 s2 ∨ (Kept { s1 with spans := s1.spans.set s.spans.length ((at_ : Int), (q.1 : Int), -1) } s2) → cs[p]? = some 11 → ∃ s3, goP cs p s2 = goP cs (p + 1) s3 ∧ Kept s s3 := by
              intro s2 p hk hp
              have hk1 : s2.opn = s.opn ++ [s.spans.length] ∧ s2.closed = false ∧ s.spans.length < s2.spans.length ∧ ∀ t, t < s.spans.length → spanN s2 t = spanN s t := by
                rcases hk with k | k
                · exact ⟨k.opn.trans hs1o, k.closed, by have := k.len; omega, fun t ht => (k.sp t (by omega)).trans (hs1s t ht)⟩
                · refine ⟨k.opn.trans hs1o, k.closed, by have : (s1.spans.set s.spans.length ((at_ : Int), (q.1 : Int), -1)).length ≤ s2.spans.length := k.len; rw [List.length_set] at this; omega, fun t ht => (k.sp t (by show t < (s1.spans.set s.spans.length ((at_ : Int), (q.1 : Int), -1)).length; rw [List.length_set]; omega)).trans ?_⟩
                  rw [spanN_set _ _ _ _ (by omega)]
                  exact hs1s t ht
              obtain ⟨a1, a2, a3, a4⟩ := hk1
              refine ⟨{ s2 with spans := s2.spans.set s.spans.length ((spanN s2 s.spans.length).1, (spanN s2 s.spans.length).2.1, (p : Int)), opn := s2.opn.dropLast }, ?_, ?_, a2, ?_, ?_⟩
              · rw [goP_step s2 hp]
                have : stepN cs 11 p s2 = (0, { s2 with spans := s2.spans.set s.spans.length ((spanN s2 s.spans.length).1, (spanN s2 s.spans.length).2.1, (p : Int)), opn := s2.opn.dropLast }) := by
                  exact stepN_eleven_some a2 (by rw [a1]; simp)
                rw [this]
                simp
              · simp [a1]
              · simp; omega
              · intro t ht
                have := spanN_set s2 t s.spans.length ((spanN s2 s.spans.length).1, (spanN s2 s.spans.length).2.1, (p : Int)) (by omega)
                exact Eq.trans this (a4 t ht)
            by_cases hq5 : q.2 = 0 ∧ cs[q.1]? = some 5
            · rw [if_pos hq5]
              have hqlt : q.1 < cs.length := (List.getElem?_eq_some_iff.1 hq5.2).1
              obtain ⟨_, s2, hk2, hg2⟩ := i3 hq5.1 hqlt
              rw [hg2]
              have hsp2 : spanN s2 s.spans.length = ((at_ : Int), -1, -1) := (hk2.sp _ (by omega)).trans hs1t
              have hlast : s2.opn.getLast? = some s.spans.length := by rw [hk2.opn, hs1o]; simp
              have hcode : codeN cs (at_ : Int) = c := by unfold codeN; rw [Int.toNat_natCast, List.getD_eq_getElem?_getD, hc]; rfl
              by_cases hc4 : c = 4
              · rw [if_neg (fun x => x hc4)]
                have hst2 : stepN cs 5 q.1 s2 = (0, { s2 with spans := s2.spans.set s.spans.length ((at_ : Int), (q.1 : Int), -1) }) := by
                  rw [stepN_five_some hk2.closed hlast hsp2, if_pos ⟨by rw [hcode]; exact hc4, rfl⟩]
                obtain ⟨s3, hs3⟩ : ∃ s3 : NS, s3 = { s2 with spans := s2.spans.set s.spans.length ((at_ : Int), (q.1 : Int), -1) } := ⟨_, rfl⟩
                have hg3 : goP cs q.1 s2 = goP cs (q.1 + 1) s3 := by rw [goP_step s2 hq5.2, hst2, hs3]; simp
                rw [hg3]
                have hs2l : s.spans.length < s2.spans.length := by have := hk2.len; omega
                have hk3 : Kept { s1 with spans := s1.spans.set s.spans.length ((at_ : Int), (q.1 : Int), -1) } s3 := by
                  rw [hs3]
                  refine ⟨hk2.opn, hk2.closed, by simpa using hk2.len, fun t ht => ?_⟩
                  simp at ht
                  by_cases htt : t = s.spans.length
                  · subst htt
                    rw [spanN_set_self _ _ _ hs2l, spanN_set_self _ _ _ (by omega)]
                  · rw [spanN_set _ _ _ _ htt, spanN_set _ _ _ _ htt]
                    exact hk2.sp t ht
                have hge2 := blockP_ge cs f (q.1 + 1) (deep + 1)
                have hle2 := blockP_le cs f (q.1 + 1) (deep + 1) (by omega)
                obtain ⟨j1, j2, j3⟩ := ih (q.1 + 1) (deep + 1) s3 (by omega) (by omega) hk3.closed (by rw [hk3.opn, hs1o]; simp; omega) (by omega)
                obtain ⟨p, hp⟩ : ∃ p, blockP cs f (q.1 + 1) (deep + 1) = p := ⟨_, rfl⟩
                rw [hp] at j1 j2 j3 hge2 hle2 ⊢
                by_cases hp5 : p.2 = 0 ∧ cs[p.1]? = some 5
                · rw [if_pos hp5]
                  have hplt : p.1 < cs.length := (List.getElem?_eq_some_iff.1 hp5.2).1
                  obtain ⟨_, s4, hk4, hg4⟩ := j3 hp5.1 hplt
                  have hk34 := hk3.trans hk4
                  refine ⟨fun _ => ?_, fun h => by simp at h, fun h => by simp at h⟩
                  rw [hg4, goP_step s4 hp5.2]
                  have hsp4 : spanN s4 s.spans.length = ((at_ : Int), (q.1 : Int), -1) := by
                    rw [hk34.sp _ (by simp; omega), spanN_set_self _ _ _ (by omega)]
                  have hlast4 : s4.opn.getLast? = some s.spans.length := by rw [hk34.opn, hs1o]; simp
                  have : stepN cs 5 p.1 s4 = (4, s4) := by
                    rw [stepN_five_some hk34.closed hlast4 hsp4, if_neg (by omega)]
                  rw [this]
                  simp
                · rw [if_neg hp5]
                  by_cases hpe : p.2 = 0
                  · rw [if_neg (fun x => x hpe)]
                    by_cases hpl : p.1 = cs.length
                    · rw [if_pos hpl]
                      refine ⟨fun _ => ?_, fun h => by simp at h, fun h => by simp at h⟩
                      rw [j2 hpe hpl, hpl]
                    · rw [if_neg hpl]
                      obtain ⟨h11, s4, hk4, hg4⟩ := j3 hpe (by omega)
                      have hp11 : cs[p.1]? = some 11 := by
                        rcases h11 with h | h
                        · exact h
                        · exact absurd ⟨hpe, h⟩ hp5
                      obtain ⟨s5, hg5, hk5⟩ := hend s4 p.1 (.inr (hk3.trans hk4)) hp11
                      rw [hg4, hg5]
                      obtain ⟨a1, a2, a3⟩ := ih (p.1 + 1) deep s5 (by omega) (by omega) hk5.closed (by rw [hk5.opn]; exact hd) h64
                      refine ⟨a1, a2, fun x y => ?_⟩
                      obtain ⟨b1, s6, b2, b3⟩ := a3 x y
                      exact ⟨b1, s6, hk5.trans b2, b3⟩
                  · rw [if_pos hpe]
                    refine ⟨fun _ => j1 hpe, fun h => absurd h hpe, fun h => absurd h hpe⟩
              · rw [if_pos hc4]
                refine ⟨fun _ => ?_, fun h => by simp at h, fun h => by simp at h⟩
                rw [goP_step s2 hq5.2]
                have : stepN cs 5 q.1 s2 = (4, s2) := by
                  rw [stepN_five_some hk2.closed hlast hsp2, if_neg (by rw [hcode]; exact fun x => hc4 x.1)]
                rw [this]
                simp
            · rw [if_neg hq5]
              by_cases hqe : q.2 = 0
              · rw [if_neg (fun x => x hqe)]
                by_cases hql : q.1 = cs.length
                · rw [if_pos hql]
                  refine ⟨fun _ => ?_, fun h => by simp at h, fun h => by simp at h⟩
                  rw [i2 hqe hql, hql]
                · rw [if_neg hql]
                  obtain ⟨h11, s2, hk2, hg2⟩ := i3 hqe (by omega)
                  have hq11 : cs[q.1]? = some 11 := by
                    rcases h11 with h | h
                    · exact h
                    · exact absurd ⟨hqe, h⟩ hq5
                  obtain ⟨s3, hg3, hk3⟩ := hend s2 q.1 (.inl hk2) hq11
                  rw [hg2, hg3]
                  obtain ⟨a1, a2, a3⟩ := ih (q.1 + 1) deep s3 (by omega) (by omega) hk3.closed (by rw [hk3.opn]; exact hd) h64
                  refine ⟨a1, a2, fun x y => ?_⟩
                  obtain ⟨b1, s6, b2, b3⟩ := a3 x y
                  exact ⟨b1, s6, hk3.trans b2, b3⟩
              · rw [if_pos hqe]
                exact ⟨fun _ => i1 hqe, fun h => absurd h hqe, fun h => absurd h hqe⟩

/-- what the document tells of all instructions: the place, the error -/
def refSp (cs : List Int) : Nat × Nat :=
  let q := blockP cs (cs.length + 1) 0 0
  if q.2 ≠ 0 then q else if q.1 = cs.length ∨ cs[q.1]? = some 5 then (q.1, 4) else if q.1 + 1 < cs.length then (q.1 + 1, 4) else (0, 0)

theorem refSp_go (cs : List Int) : refSp cs = goP cs 0 initN := by
  obtain ⟨i1, i2, i3⟩ := block_walk cs (cs.length + 1) 0 0 initN (by omega) (by omega) rfl rfl (by omega)
  have hle := blockP_le cs (cs.length + 1) 0 0 (by omega)
  unfold refSp
  simp only
  by_cases h1 : (blockP cs (cs.length + 1) 0 0).2 = 0
  · rw [if_neg (fun x => x h1)]
    by_cases h2 : (blockP cs (cs.length + 1) 0 0).1 = cs.length
    · rw [if_pos (.inl h2), i2 h1 h2, h2]
    · obtain ⟨h3, s', hk, hg⟩ := i3 h1 (by omega)
      by_cases h5 : cs[(blockP cs (cs.length + 1) 0 0).1]? = some 5
      · rw [if_pos (.inr h5), hg, goP_step s' h5]
        have : stepN cs 5 (blockP cs (cs.length + 1) 0 0).1 s' = (4, s') := by
          exact stepN_five hk.closed (by rw [hk.opn]; rfl)
        rw [this]
        simp
      · have h11 : cs[(blockP cs (cs.length + 1) 0 0).1]? = some 11 := by
          rcases h3 with h | h
          · exact h
          · exact absurd h h5
        rw [if_neg (by simp [h2, h5]), hg, goP_step s' h11]
        have : stepN cs 11 (blockP cs (cs.length + 1) 0 0).1 s' = (0, { s' with closed := true }) := by
          exact stepN_eleven hk.closed (by rw [hk.opn]; rfl)
        rw [this]
        simp only [ne_eq, not_true_eq_false, if_false]
        by_cases h6 : (blockP cs (cs.length + 1) 0 0).1 + 1 < cs.length
        · rw [if_pos h6]
          obtain ⟨c, hc⟩ : ∃ c, cs[(blockP cs (cs.length + 1) 0 0).1 + 1]? = some c := ⟨_, List.getElem?_eq_getElem h6⟩
          rw [goP_step _ hc]
          have : stepN cs c ((blockP cs (cs.length + 1) 0 0).1 + 1) { s' with closed := true } = (4, { s' with closed := true }) := by
            unfold stepN
            rw [if_pos rfl]
          rw [this]
          simp
        · rw [if_neg h6]
          unfold goP
          rw [List.drop_of_length_le (by omega), goN]
          simp
  · rw [if_pos h1, i1 h1]
end Go.Proofs.YtpanlhbdphobdaaGreatDoor

namespace Go.Proofs.YtpanlhbdphobdaaGreatDoor

def cntN (n : Nat) : Nat := (n + 6) / 7

/-- the loop of raw: at byte i, with what has been gathered -/
def rawGo (cnt : Nat) : List UInt8 → Nat → Nat → Nat × Nat × Nat × Nat
  | [], _, _ => (0, 0, 0, 3)
  | c :: r, i, acc =>
    if i + 1 = cnt ∧ 128 ≤ c.toNat then (0, 0, 0, 4)
    else if c.toNat < 128 then (acc ||| (c.toNat % 128 * 2 ^ (7 * i) % 2 ^ 64), i + 1, c.toNat, 0)
    else rawGo cnt r (i + 1) (acc ||| (c.toNat % 128 * 2 ^ (7 * i) % 2 ^ 64))

def rawL (bs : List UInt8) (n : Int) : Nat × Nat × Nat × Nat :=
  if n < 1 ∨ 64 < n then (0, 0, 0, 1) else rawGo (cntN n.toNat) bs 0 0

/-- what lies beyond the last byte's used bits; how many bits -/
def beyondL (c size n : Nat) : Nat × Nat :=
  if 7 * size ≤ n then (0, 0) else (c % 128 / 2 ^ (n + 7 - 7 * size), 7 * size - n)

def unsignedL (bs : List UInt8) (n : Int) : Nat × Nat × Nat :=
  let r := rawL bs n
  if r.2.2.2 ≠ 0 then (0, 0, r.2.2.2)
  else if (beyondL r.2.2.1 r.2.1 n.toNat).1 ≠ 0 then (0, 0, 4)
  else (r.1, r.2.1, 0)

theorem and127 (x : Nat) : x &&& 127 = x % 128 := Nat.and_two_pow_sub_one_eq_mod x 7

theorem rawGo_lt (cnt : Nat) : ∀ (bs : List UInt8) (i acc : Nat), acc < 2 ^ 64 → (rawGo cnt bs i acc).1 < 2 ^ 64 := by
  intro bs
  induction bs with
  | nil => intro i acc h; simp [rawGo]
  | cons c r ih =>
    intro i acc h
    have h2 : acc ||| (c.toNat % 128 * 2 ^ (7 * i) % 2 ^ 64) < 2 ^ 64 := Nat.or_lt_two_pow h (Nat.mod_lt _ (by omega))
    unfold rawGo
    split
    · simp
    · split
      · exact h2
      · exact ih _ _ h2

/-- what comes back is OK, with a last byte below 128, and between 1 and cnt bytes; or an error -/
theorem rawGo_ok (cnt : Nat) : ∀ (bs : List UInt8) (i acc : Nat), i < cnt →
    ((rawGo cnt bs i acc).2.2.2 = 0 ∧ i + 1 ≤ (rawGo cnt bs i acc).2.1 ∧ (rawGo cnt bs i acc).2.1 ≤ cnt ∧ (rawGo cnt bs i acc).2.2.1 < 128) ∨
    ((rawGo cnt bs i acc) = (0, 0, 0, 3)) ∨ ((rawGo cnt bs i acc) = (0, 0, 0, 4)) := by
  intro bs
  induction bs with
  | nil => intro i acc h; simp [rawGo]
  | cons c r ih =>
    intro i acc h
    unfold rawGo
    split
    · simp
    · rename_i h1
      split
      · rename_i h2
        refine .inl ⟨rfl, Nat.le_refl _, ?_, h2⟩
        show i + 1 ≤ cnt
        omega
      · rename_i h2
        have hne : i + 1 ≠ cnt := fun e => h1 ⟨e, by omega⟩
        rcases ih (i + 1) (acc ||| (c.toNat % 128 * 2 ^ (7 * i) % 2 ^ 64)) (by omega) with ⟨a, b, d, e⟩ | hh
        · exact .inl ⟨a, by omega, d, e⟩
        · exact .inr hh

/-- what raw answers: a number of at least one byte, the last one below 128; or an error alone -/
theorem rawL_cases (bs : List UInt8) (n : Int) :
    (∃ v size c, rawL bs n = (v, size, c, 0) ∧ 1 ≤ n ∧ n ≤ 64 ∧ 1 ≤ size ∧ 7 * (size : Int) < n + 7 ∧ c ≤ 127 ∧ size ≤ 10 ∧ v < 2 ^ 64) ∨
    (∃ e, rawL bs n = (0, 0, 0, e) ∧ (e = 1 ∨ e = 3 ∨ e = 4)) := by
  by_cases h : n < 1 ∨ 64 < n
  · exact .inr ⟨1, by unfold rawL; rw [if_pos h], .inl rfl⟩
  · have hR : rawL bs n = rawGo (cntN n.toNat) bs 0 0 := by unfold rawL; rw [if_neg h]
    have hlt := rawGo_lt (cntN n.toNat) bs 0 0 (by omega)
    have hc : 7 * cntN n.toNat < n.toNat + 7 := by unfold cntN; omega
    have hok := rawGo_ok (cntN n.toNat) bs 0 0 (by unfold cntN; omega)
    rw [hR]
    revert hlt hok
    generalize rawGo (cntN n.toNat) bs 0 0 = r
    obtain ⟨v, size, c, e⟩ := r
    intro hlt hok
    rcases hok with ⟨a, b, d, f⟩ | hh | hh
    · simp only at a b d f hlt
      subst a
      exact .inl ⟨v, size, c, rfl, by omega, by omega, b, by omega, by omega, by omega, hlt⟩
    · exact .inr ⟨3, hh, .inr (.inl rfl)⟩
    · exact .inr ⟨4, hh, .inr (.inr rfl)⟩

/-- a number of so many bits with its sign, out of its bits -/
def extendL (v n : Nat) : Int := if v % 2 ^ n < 2 ^ (n - 1) then (v % 2 ^ n : Nat) else (v % 2 ^ n : Nat) - (2 ^ n : Nat)

def signedL (bs : List UInt8) (n : Int) : Int × Nat × Nat :=
  let r := rawL bs n
  if r.2.2.2 ≠ 0 then (0, 0, r.2.2.2)
  else
    let out := extendL r.1 (min (7 * r.2.1) n.toNat)
    let y := beyondL r.2.2.1 r.2.1 n.toNat
    if 0 < y.2 ∧ y.1 ≠ (if out < 0 then 2 ^ y.2 - 1 else 0) then (0, 0, 4) else (out, r.2.1, 0)

/-- the fewest bytes, with fuel -/
def putF : Nat → Nat → List UInt8
  | 0, n => [UInt8.ofNat n]
  | k + 1, n => if n < 128 then [UInt8.ofNat n] else UInt8.ofNat (n % 128 + 128) :: putF k (n / 128)

def putN (n : Nat) : List UInt8 := putF 9 n

theorem putF_more : ∀ (k n : Nat), n < 128 ^ (k + 1) → putF (k + 1) n = putF k n := by
  intro k
  induction k with
  | zero => intro n h; simp only [putF]; rw [if_pos (by simpa using h)]
  | succ k ih =>
    intro n h
    by_cases h1 : n < 128
    · rw [putF, if_pos h1, putF, if_pos h1]
    · rw [putF, if_neg h1, ih (n / 128) (by rw [Nat.div_lt_iff_lt_mul (by omega)]; rw [Nat.pow_succ] at h; exact h)]
      rw [putF, if_neg h1]

theorem putN_small (n : Nat) (h : n < 128) : putN n = [UInt8.ofNat n] := by
  unfold putN; rw [putF, if_pos h]

theorem putN_step (n : Nat) (h : 128 ≤ n) (h2 : n < 2 ^ 64) : putN n = UInt8.ofNat (n % 128 + 128) :: putN (n / 128) := by
  unfold putN
  rw [putF, if_neg (by omega), putF_more 8]
  omega

theorem putF_length : ∀ (k n : Nat), 1 ≤ (putF k n).length ∧ (putF k n).length ≤ k + 1 := by
  intro k
  induction k with
  | zero => intro n; simp [putF]
  | succ k ih =>
    intro n
    rw [putF]
    split
    · simp
    · have := ih (n / 128); simp; omega

def sizeL (n : Nat) : Nat := max (cntN (Lib.bitLen n)) 1
/-- a number's bits without its sign -/
def magN (n : Int) : Nat := if n < 0 then (-n - 1).toNat else n.toNat
def sizeS (n : Int) : Nat := (Lib.bitLen (magN n) + 7) / 7
/-- so many bytes of a number with a sign -/
def putS : Nat → Int → List UInt8
  | 0, n => [UInt8.ofNat (n % 128).toNat]
  | k + 1, n => UInt8.ofNat ((n % 128).toNat + 128) :: putS k (n / 128)
def putSN (n : Int) : List UInt8 := putS (sizeS n - 1) n
theorem putS_length : ∀ (k : Nat) (n : Int), (putS k n).length = k + 1 := by
  intro k
  induction k with
  | zero => intro n; rfl
  | succ k ih => intro n; rw [putS, List.length_cons, ih]
theorem magN_lt (n : Int) (h1 : -9223372036854775808 ≤ n) (h2 : n ≤ 9223372036854775807) : magN n < 2 ^ 63 := by
  unfold magN; simp only [Nat.reducePow]; split <;> omega
theorem sizeS_bd (n : Int) (h1 : -9223372036854775808 ≤ n) (h2 : n ≤ 9223372036854775807) : 1 ≤ sizeS n ∧ sizeS n ≤ 10 := by
  have := Lib.bitLen_le (magN n) 63 (by omega) (magN_lt n h1 h2)
  unfold sizeS; omega

theorem putN_length (n : Nat) : 1 ≤ (putN n).length ∧ (putN n).length ≤ 10 := putF_length 9 n
end Go.Proofs.YtpanlhbdphobdaaGreatDoor
