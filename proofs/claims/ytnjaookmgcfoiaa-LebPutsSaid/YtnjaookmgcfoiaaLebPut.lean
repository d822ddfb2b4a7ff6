/-
  Numbers' fewest bytes, read again; in plain Lean.
-/
import Derived.Test.YtnjaookmgcfoiaaLebLawS
namespace Go.Proofs.Ytnjaookmgcfoiaa

theorem ofNat_lt (n : Nat) (h : n < 256) : (UInt8.ofNat n).toNat = n := by simp [UInt8.toNat_ofNat']; omega

theorem putN_ge (n : Nat) (h : 128 ≤ n) (h2 : n < 2 ^ 64) : (putN n).length = (putN (n / 128)).length + 1 := by
  rw [putN_step n h h2, List.length_cons]

/-- raw over a number's bytes, from byte i on -/
theorem raw_putN (cnt : Nat) (hcnt : cnt ≤ 10) : ∀ (f m i acc : Nat), m < 128 ^ f → m < 2 ^ 64 → i < cnt → acc < 2 ^ (7 * i) →
    rawGo cnt (putN m) i acc = if m < 2 ^ (7 * (cnt - i)) then ((acc + 2 ^ (7 * i) * m) % 2 ^ 64, i + (putN m).length, m / 128 ^ ((putN m).length - 1), 0) else (0, 0, 0, 4) := by
  intro f
  induction f with
  | zero =>
    intro m i acc hm h64 hi ha
    have hm0 : m = 0 := by simpa using hm
    subst hm0
    rw [if_pos (Nat.two_pow_pos _), putN_small 0 (by omega), rawGo, if_neg (by rintro ⟨_, h⟩; revert h; decide), if_pos (by decide)]
    have := or_add acc 0 i (by omega) ha
    simp only [Nat.zero_mod, Nat.zero_mul, Nat.mul_zero, Nat.add_zero] at this ⊢
    simp [this]
  | succ f ih =>
    intro m i acc hm h64 hi ha
    by_cases hs : m < 128
    · have hlt : m < 2 ^ (7 * (cnt - i)) := Nat.lt_of_lt_of_le hs (by
        calc 128 = 2 ^ 7 := rfl
          _ ≤ 2 ^ (7 * (cnt - i)) := Nat.pow_le_pow_right (by omega) (by omega))
      rw [if_pos hlt, putN_small m hs, rawGo, ofNat_lt m (by omega), if_neg (by omega), if_pos hs, or_add acc m i (by omega) ha, Nat.mod_eq_of_lt hs]
      simp
    · have hge : 128 ≤ m := by omega
      have hc : (UInt8.ofNat (m % 128 + 128)).toNat = m % 128 + 128 := ofNat_lt _ (by omega)
      rw [putN_step m hge h64, rawGo, hc]
      by_cases hl : i + 1 = cnt
      · rw [if_pos ⟨hl, by omega⟩, if_neg]
        rw [show cnt - i = 1 from by omega]
        simp only [Nat.mul_one, Nat.reducePow]
        omega
      · rw [if_neg (by omega), if_neg (by omega), or_add acc _ i (by omega) ha]
        have hmod : (m % 128 + 128) % 128 = m % 128 := by omega
        rw [hmod]
        have hp7 : 2 ^ (7 * (i + 1)) = 2 ^ (7 * i) * 128 := by rw [Nat.mul_add, Nat.pow_add]
        have hlt2 : acc + 2 ^ (7 * i) * (m % 128) < 2 ^ (7 * (i + 1)) := by
          have h1 : 2 ^ (7 * i) * (m % 128 + 1) ≤ 2 ^ (7 * i) * 128 := Nat.mul_le_mul_left _ (by omega)
          rw [Nat.mul_add, Nat.mul_one] at h1
          omega
        have hle : 2 ^ (7 * (i + 1)) ≤ 2 ^ 64 := Nat.pow_le_pow_right (by omega) (by omega)
        rw [Nat.mod_eq_of_lt (by omega), ih (m / 128) (i + 1) _ (by rw [Nat.div_lt_iff_lt_mul (by omega)]; rw [Nat.pow_succ] at hm; exact hm) (Nat.lt_of_le_of_lt (Nat.div_le_self _ _) h64) (by omega) hlt2]
        have hcond : m / 128 < 2 ^ (7 * (cnt - (i + 1))) ↔ m < 2 ^ (7 * (cnt - i)) := by
          rw [show 7 * (cnt - i) = 7 * (cnt - (i + 1)) + 7 from by omega, Nat.pow_add, Nat.div_lt_iff_lt_mul (by omega)]
        by_cases hx : m < 2 ^ (7 * (cnt - i))
        · rw [if_pos (hcond.2 hx), if_pos hx]
          have hv : acc + 2 ^ (7 * i) * (m % 128) + 2 ^ (7 * (i + 1)) * (m / 128) = acc + 2 ^ (7 * i) * m := by
            rw [hp7, Nat.mul_assoc, Nat.add_assoc, ← Nat.mul_add, show m % 128 + 128 * (m / 128) = m from by omega]
          have hlen := (putN_length (m / 128)).1
          rw [hv, List.length_cons, show i + 1 + (putN (m / 128)).length = i + ((putN (m / 128)).length + 1) from by omega]
          congr 3
          rw [Nat.add_sub_cancel]
          obtain ⟨k, hk⟩ : ∃ k, (putN (m / 128)).length = k + 1 := ⟨_, (Nat.succ_pred_eq_of_pos hlen).symm⟩
          rw [hk, Nat.add_sub_cancel, Nat.pow_succ, Nat.mul_comm, Nat.div_div_eq_div_mul]
        · rw [if_neg (fun h => hx (hcond.1 h)), if_neg hx]

/-- how many bytes: the least number of groups of seven bits -/
theorem putN_len_lt : ∀ (f m : Nat), m < 128 ^ f → m < 2 ^ 64 → m < 128 ^ (putN m).length ∧ (1 < (putN m).length → 128 ^ ((putN m).length - 1) ≤ m) := by
  intro f
  induction f with
  | zero =>
    intro m hm h64
    have hm0 : m = 0 := by simpa using hm
    subst hm0
    rw [putN_small 0 (by omega)]
    simp
  | succ f ih =>
    intro m hm h64
    by_cases hs : m < 128
    · rw [putN_small m hs]; simp [hs]
    · have hge : 128 ≤ m := by omega
      have := ih (m / 128) (by rw [Nat.div_lt_iff_lt_mul (by omega)]; rw [Nat.pow_succ] at hm; exact hm) (Nat.lt_of_le_of_lt (Nat.div_le_self _ _) h64)
      have hlen := (putN_length (m / 128)).1
      rw [putN_ge m hge h64]
      obtain ⟨k, hk⟩ : ∃ k, (putN (m / 128)).length = k + 1 := ⟨_, (Nat.succ_pred_eq_of_pos hlen).symm⟩
      rw [hk] at this ⊢
      obtain ⟨h1, h2⟩ := this
      simp only [Nat.add_sub_cancel] at h2 ⊢
      refine ⟨by rw [Nat.pow_succ, ← Nat.div_lt_iff_lt_mul (by omega)]; exact h1, fun _ => ?_⟩
      rcases Nat.eq_zero_or_pos k with h0 | h0
      · subst h0; simpa using hge
      · rw [Nat.pow_succ, ← Nat.le_div_iff_mul_le (by omega)]
        exact h2 (by omega)

theorem pow128 (k : Nat) : 128 ^ k = 2 ^ (7 * k) := by rw [show (128 : Nat) = 2 ^ 7 from rfl, ← Nat.pow_mul]

theorem unsigned_put (n k : Nat) (h64 : n < 2 ^ 64) (hk1 : 1 ≤ k) (hk2 : k ≤ 64) : unsignedL (putN n) (k : Int) = if n < 2 ^ k then (n, (putN n).length, 0) else (0, 0, 4) := by
  have hcn : cntN k = (k + 6) / 7 := rfl
  have hraw : rawL (putN n) (k : Int) = if n < 2 ^ (7 * cntN k) then (n, (putN n).length, n / 128 ^ ((putN n).length - 1), 0) else (0, 0, 0, 4) := by
    unfold rawL
    rw [if_neg (by omega), show ((k : Int)).toNat = k from rfl, raw_putN (cntN k) (by omega) 10 n 0 0 (Nat.lt_of_lt_of_le h64 (by decide)) h64 (by omega) (by omega)]
    simp only [Nat.sub_zero, Nat.zero_add, Nat.mul_zero, Nat.pow_zero, Nat.one_mul, Nat.mod_eq_of_lt h64]
  obtain ⟨hl1, hl2⟩ := putN_len_lt 10 n (Nat.lt_of_lt_of_le h64 (by decide)) h64
  have hlen := putN_length n
  unfold unsignedL
  rw [hraw]
  by_cases hc : n < 2 ^ (7 * cntN k)
  · rw [if_pos hc]
    simp only [ne_eq, not_true_eq_false, if_false, show ((k : Int)).toNat = k from rfl]
    generalize (putN n).length = L at *
    rw [pow128] at hl1 hl2
    unfold beyondL
    by_cases h7 : 7 * L ≤ k
    · rw [if_pos h7, if_pos (Nat.lt_of_lt_of_le hl1 (Nat.pow_le_pow_right (by omega) h7))]
      simp
    · rw [if_neg h7]
      have hLc : L ≤ cntN k := by
        rcases Nat.lt_or_ge 1 L with h1 | h1
        · have h3 := Nat.lt_of_le_of_lt (hl2 h1) hc
          have := (Nat.pow_lt_pow_iff_right (a := 2) (by omega)).1 h3
          omega
        · omega
      have hdiv : n / 128 ^ (L - 1) % 128 / 2 ^ (k + 7 - 7 * L) = n / 2 ^ k := by
        have hlt : n / 128 ^ (L - 1) < 128 := by
          rw [Nat.div_lt_iff_lt_mul (by rw [pow128]; exact Nat.two_pow_pos _), pow128]
          rw [show 7 * L = 7 + 7 * (L - 1) from by omega, Nat.pow_add] at hl1
          exact hl1
        rw [Nat.mod_eq_of_lt hlt, Nat.div_div_eq_div_mul, pow128, ← Nat.pow_add, show 7 * (L - 1) + (k + 7 - 7 * L) = k from by omega]
      simp only [hdiv]
      by_cases hn : n < 2 ^ k
      · rw [if_pos hn, Nat.div_eq_of_lt hn]; simp
      · rw [if_neg hn]
        have : n / 2 ^ k ≠ 0 := by
          have := Nat.div_pos (Nat.le_of_not_lt hn) (Nat.two_pow_pos k)
          omega
        simp [this]
  · have hnk : ¬ n < 2 ^ k := fun h => hc (Nat.lt_of_lt_of_le h (Nat.pow_le_pow_right (by omega) (by omega)))
    rw [if_neg hc, if_neg hnk]
    simp

/-- how many bytes, by the bits that a number needs -/
theorem bitLen_iff : ∀ (f n k : Nat), n < 2 ^ f → f ≤ 64 → (Lib.bitLen n ≤ k ↔ n < 2 ^ k) := by
  intro f
  induction f with
  | zero =>
    intro n k h _
    have : n = 0 := by simpa using h
    subst this
    have h0 : Lib.bitLen 0 = 0 := by decide
    rw [h0]
    simp [Nat.two_pow_pos]
  | succ f ih =>
    intro n k h hf
    by_cases h0 : n = 0
    · subst h0
      have h0 : Lib.bitLen 0 = 0 := by decide
      rw [h0]
      simp [Nat.two_pow_pos]
    · rw [Lib.bitLen_half n h0 (Nat.lt_of_lt_of_le h (Nat.pow_le_pow_right (by omega) hf))]
      have := ih (n / 2)
      rcases Nat.eq_zero_or_pos k with hk | hk
      · subst hk; simp; omega
      · obtain ⟨k, rfl⟩ : ∃ j, k = j + 1 := ⟨k - 1, by omega⟩
        rw [Nat.pow_succ] at h ⊢
        have h2 := ih (n / 2) k (by omega) (by omega)
        constructor
        · intro hh; have := h2.1 (by omega); omega
        · intro hh; have := h2.2 (by omega); omega

theorem sizeL_eq (n : Nat) (h64 : n < 2 ^ 64) : sizeL n = (putN n).length := by
  obtain ⟨hl1, hl2⟩ := putN_len_lt 10 n (Nat.lt_of_lt_of_le h64 (by decide)) h64
  have hlen := putN_length n
  unfold sizeL cntN
  generalize (putN n).length = L at *
  rw [pow128] at hl1 hl2
  have hb1 := (bitLen_iff 64 n (7 * L) h64 (by omega)).2 hl1
  rcases Nat.lt_or_ge 1 L with h1 | h1
  · have h2 := hl2 h1
    have hb2 : ¬ Lib.bitLen n ≤ 7 * (L - 1) := fun h => by
      have := (bitLen_iff 64 n (7 * (L - 1)) h64 (by omega)).1 h
      omega
    omega
  · omega
end Go.Proofs.Ytnjaookmgcfoiaa
