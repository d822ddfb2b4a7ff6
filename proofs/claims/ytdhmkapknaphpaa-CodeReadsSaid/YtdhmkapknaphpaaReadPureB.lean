/-
  How many bytes an instruction takes, and how great it is; in plain Lean.
-/
import Derived.Test.YtdhmkapknaphpaaReadPure
import Derived.Test.YtdhmkapknaphpaaDecAll
namespace Go.Proofs.Ytdhmkapknaphpaa
open Go.RowKit
set_option linter.unusedVariables false

theorem labelsL_k : ∀ (n : Nat) (l : List UInt8), (labelsL n l).1 = 0 → (labelsL n l).2.1 ≤ l.length ∧ (labelsL n l).2.2.length = n := by
  intro n
  induction n with
  | zero => intro l _; simp [labelsL]
  | succ n ih =>
    intro l h
    rw [labelsL] at h ⊢
    by_cases h1 : (unsignedL l 32).2.2 = 0
    · rw [if_neg (fun x => x h1)] at h ⊢
      by_cases h2 : (labelsL n (l.drop (unsignedL l 32).2.1)).1 = 0
      · rw [if_neg (fun x => x h2)] at h ⊢
        obtain ⟨a, b⟩ := ih _ h2
        rw [List.length_drop] at a
        have := unsigned_cases l 32
        simp only [List.length_cons]
        omega
      · rw [if_pos h2] at h
        exact absurd h h2
    · rw [if_pos h1] at h
      exact absurd h h1
theorem tableR_k (l : List UInt8) (h : (tableR l).e = 0) : (tableR l).k ≤ l.length ∧ (tableR l).l.length ≤ 100 := by
  unfold tableR at h ⊢
  simp only at h ⊢
  by_cases h1 : (unsignedL l 32).2.2 = 0
  · rw [if_neg (fun x => x h1)] at h ⊢
    by_cases h2 : 100 < (unsignedL l 32).1
    · rw [if_pos h2] at h; cases h
    · rw [if_neg h2] at h ⊢
      by_cases h3 : (labelsL (unsignedL l 32).1 (l.drop (unsignedL l 32).2.1)).1 = 0
      · rw [if_neg (fun x => x h3)] at h ⊢
        by_cases h4 : (unsignedL ((l.drop (unsignedL l 32).2.1).drop (labelsL (unsignedL l 32).1 (l.drop (unsignedL l 32).2.1)).2.1) 32).2.2 = 0
        · rw [if_neg (fun x => x h4)] at h ⊢
          simp only
          have a := unsigned_cases l 32
          obtain ⟨b, b2⟩ := labelsL_k _ _ h3
          have c := unsigned_cases ((l.drop (unsignedL l 32).2.1).drop (labelsL (unsignedL l 32).1 (l.drop (unsignedL l 32).2.1)).2.1) 32
          rw [List.length_drop, List.length_drop] at c
          rw [List.length_drop] at b
          omega
        · rw [if_pos h4] at h; exact absurd h h4
      · rw [if_pos h3] at h; exact absurd h h3
  · rw [if_pos h1] at h; exact absurd h h1
theorem twoR_k (l : List UInt8) (h : (twoR l).e = 0) : (twoR l).k ≤ l.length ∧ (twoR l).l = [] := by
  unfold twoR at h ⊢
  simp only at h ⊢
  by_cases h1 : (unsignedL l 32).2.2 = 0
  · rw [if_neg (fun x => x h1)] at h ⊢
    by_cases h2 : (unsignedL (l.drop (unsignedL l 32).2.1) 32).2.2 = 0
    · rw [if_neg (fun x => x h2)] at h ⊢
      have a := unsigned_cases l 32
      have c := unsigned_cases (l.drop (unsignedL l 32).2.1) 32
      rw [List.length_drop] at c
      exact ⟨by simp only; omega, rfl⟩
    · rw [if_pos h2] at h; exact absurd h h2
  · rw [if_pos h1] at h; exact absurd h h1
theorem memR_k (l : List UInt8) (h : (memR l).e = 0) : (memR l).k ≤ l.length ∧ (memR l).l = [] := by
  have a := unsigned_cases l 32
  by_cases h1 : (unsignedL l 32).2.2 = 0
  · by_cases h2 : 31 < (unsignedL l 32).1 - 64 * ((unsignedL l 32).1 / 64 % 2)
    · rw [memR_big h1 h2] at h; cases h
    · by_cases hm : (unsignedL l 32).1 / 64 % 2 = 1
      · obtain ⟨m1, m2, m3⟩ := memR_one h1 h2 hm _ _ rfl rfl
        by_cases h3 : (unsignedL (l.drop (unsignedL l 32).2.1) 32).2.2 = 0
        · have h4 := m2 h3
          rw [h] at h4
          obtain ⟨b1, _, _, _, b5⟩ := m3 h3 h4.symm
          have c := unsigned_cases (l.drop (unsignedL l 32).2.1) 32
          have d := unsigned_cases ((l.drop (unsignedL l 32).2.1).drop (unsignedL (l.drop (unsignedL l 32).2.1) 32).2.1) 64
          rw [List.length_drop] at c
          rw [List.length_drop, List.length_drop] at d
          exact ⟨by rw [b1]; omega, b5⟩
        · rw [m1 h3] at h; exact absurd h h3
      · obtain ⟨m1, m2⟩ := memR_zero h1 h2 (by omega) _ rfl
        rw [h] at m1
        obtain ⟨b1, _, _, _, b5⟩ := m2 m1.symm
        have c := unsigned_cases (l.drop (unsignedL l 32).2.1) 64
        rw [List.length_drop] at c
        exact ⟨by rw [b1]; omega, b5⟩
  · rw [memR_q h1] at h; exact absurd h h1
theorem numbersR_k (c : Nat) (l : List UInt8) (h : (numbersR c l).e = 0) : (numbersR c l).k ≤ l.length ∧ (numbersR c l).l.length ≤ 100 := by
  have key : ∀ d : DR, (d.k ≤ l.length ∧ d.l = []) → d.k ≤ l.length ∧ d.l.length ≤ 100 := fun d h => ⟨h.1, by rw [h.2]; simp⟩
  unfold numbersR at h ⊢
  simp only at h ⊢
  split at h
  · refine key _ ?_
    obtain ⟨q1, q2, q3⟩ := blockR_q l
    cases l with
    | nil => simp [blockR, byteL, failR] at h
    | cons b r =>
      by_cases hb : blockedL ((byteL (b :: r)).1 : Int) = true
      · rw [if_pos (by assumption), q3 rfl hb]; simp
      · rw [q2 rfl (by simpa using hb)] at h; cases h
  · split at h
    · refine key _ ?_
      rename_i n1 n2
      rw [if_neg n1, if_pos n2]
      obtain ⟨q1, q2⟩ := oneR_q l
      by_cases h1 : (unsignedL l 32).2.2 = 0
      · rw [q2 h1]
        have a := unsigned_cases l 32
        exact ⟨by simp only; omega, rfl⟩
      · rw [q1 h1] at h; exact absurd h h1
    · split at h
      · rename_i n1 n2 n3
        rw [if_neg n1, if_neg n2, if_pos n3]
        exact tableR_k l h
      · split at h
        · rename_i n1 n2 n3 n4
          rw [if_neg n1, if_neg n2, if_neg n3, if_pos n4]
          exact key _ (twoR_k l h)
        · split at h
          · rename_i n1 n2 n3 n4 n5
            rw [if_neg n1, if_neg n2, if_neg n3, if_neg n4, if_pos n5]
            exact key _ (memR_k l h)
          · split at h
            · rename_i n1 n2 n3 n4 n5 n6
              rw [if_neg n1, if_neg n2, if_neg n3, if_neg n4, if_neg n5, if_pos n6]
              refine key _ ?_
              obtain ⟨q1, q2⟩ := constR_q c l _ rfl
              have a := signed_cases l (if c = 66 then 64 else 32)
              by_cases h1 : (signedL l (if c = 66 then 64 else 32)).2.2 = 0
              · rw [q2 h1]
                exact ⟨by simp only; omega, rfl⟩
              · rw [q1 h1] at h; exact absurd h h1
            · rename_i n1 n2 n3 n4 n5 n6
              rw [if_neg n1, if_neg n2, if_neg n3, if_neg n4, if_neg n5, if_neg n6]
              simp
theorem codeL0_le (l : List UInt8) : (codeL0 l).1 ≤ 200000 := by
  cases l with
  | nil => simp [codeL0]
  | cons b r =>
    unfold codeL0
    simp only
    have := b.toNat_lt
    split <;> simp only <;> omega
/-- an instruction that is one: how many bytes, its code, its labels -/
theorem decodeR_k (l : List UInt8) (h : (decodeR l).2.e = 0) : 1 ≤ (decodeR l).2.k ∧ (decodeR l).2.k ≤ l.length ∧ (decodeR l).1 ≤ 200000 ∧ (decodeR l).2.l.length ≤ 100 := by
  unfold decodeR at h ⊢
  simp only at h ⊢
  by_cases h1 : codeE (codeL0 l).1 (codeL0 l).2.2 = 0
  · rw [if_neg (fun x => x h1)] at h ⊢
    have hce : (codeL0 l).2.2 = 0 := by
      apply Decidable.byContradiction
      intro hn
      unfold codeE at h1
      rw [if_pos hn] at h1
      exact hn h1
    by_cases h2 : (numbersR (codeL0 l).1 (l.drop (codeL0 l).2.1)).e = 0
    · rw [if_neg (fun x => x h2)] at h ⊢
      obtain ⟨a, b⟩ := codeL0_k l hce
      obtain ⟨c, d⟩ := numbersR_k _ _ h2
      rw [List.length_drop] at c
      have := codeL0_le l
      simp only
      omega
    · rw [if_pos h2] at h; exact absurd h h2
  · rw [if_pos h1] at h; exact absurd h h1
theorem insL_go {bs : List UInt8} {f at_ : Nat} {s : NS} {xs : List DI} {r : Nat × Nat × List DI} (h : insL bs (f + 1) at_ s xs = r) (h1 : at_ < bs.length) (hc : s.closed = false) (h2 : (decodeR (bs.drop at_)).2.e = 0) (st : Nat × NS) (hst : stepN (codesD xs ++ [((decodeR (bs.drop at_)).1 : Int)]) (decodeR (bs.drop at_)).1 xs.length s = st) (h3 : st.1 = 0) :
    insL bs f (at_ + (decodeR (bs.drop at_)).2.k) st.2 (xs ++ [diOf (decodeR (bs.drop at_))]) = r := by
  rw [insL_step h1 hc h2 st hst, if_neg (fun x => x h3)] at h
  exact h
end Go.Proofs.Ytdhmkapknaphpaa
