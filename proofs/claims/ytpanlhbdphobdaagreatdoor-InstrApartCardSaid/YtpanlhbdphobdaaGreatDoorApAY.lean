/-
  Numbers' fewest bytes, read again; in plain Lean.
  Numbers with a sign: their fewest bytes, read again; in plain Lean.
-/
import Derived.Test.YtpanlhbdphobdaaGreatDoorApAX
namespace Go.Proofs.YtpanlhbdphobdaaGreatDoor

theorem ofNat_lt (n : Nat) (h : n < 256) : (UInt8.ofNat n).toNat = n := by simp [UInt8.toNat_ofNat']; omega

theorem putN_ge (n : Nat) (h : 128 ≤ n) (h2 : n < 2 ^ 64) : (putN n).length = (putN (n / 128)).length + 1 := by
  rw [putN_step n h h2, List.length_cons]

/-- raw over a number's bytes, from byte i on -/
theorem raw_putN (cnt : Nat) (hcnt : cnt ≤ 10) : ∀ (f m i acc : Nat), m < 128 ^ f → m < 2 ^ 64 → i < cnt → acc < 2 ^ (7 * i) →
    rawGo cnt (putN m) i acc = if m < 2 ^ (7 * (cnt - i)) then ((acc + 2 ^ (7 * i) * m) % 2 ^ 64, i + (putN m).length, m / 128 ^ ((putN m).length - 1), 0) else (0, 0, 0, 4) := by
  intro f
  induction f with
  | zero =>
    intro m i acc hm h64 hi ha
    have hm0 : m = 0 := by simpa using hm
    subst hm0
    rw [if_pos (Nat.two_pow_pos _), putN_small 0 (by omega), rawGo, if_neg (by rintro ⟨_, h⟩; revert h; decide), if_pos (by decide)]
    have := or_add acc 0 i (by omega) ha
    simp only [Nat.zero_mod, Nat.zero_mul, Nat.mul_zero, Nat.add_zero] at this ⊢
    simp [this]
  | succ f ih =>
    intro m i acc hm h64 hi ha
    by_cases hs : m < 128
    · have hlt : m < 2 ^ (7 * (cnt - i)) := Nat.lt_of_lt_of_le hs (by
        calc 128 = 2 ^ 7 := rfl
          _ ≤ 2 ^ (7 * (cnt - i)) := Nat.pow_le_pow_right (by omega) (by omega))
      rw [if_pos hlt, putN_small m hs, rawGo, ofNat_lt m (by omega), if_neg (by omega), if_pos hs, or_add acc m i (by omega) ha, Nat.mod_eq_of_lt hs]
      simp
    · have hge : 128 ≤ m := by omega
      have hc : (UInt8.ofNat (m % 128 + 128)).toNat = m % 128 + 128 := ofNat_lt _ (by omega)
      rw [putN_step m hge h64, rawGo, hc]
      by_cases hl : i + 1 = cnt
      · rw [if_pos ⟨hl, by omega⟩, if_neg]
        rw [show cnt - i = 1 from by omega]
        simp only [Nat.mul_one, Nat.reducePow]
        omega
      · rw [if_neg (by omega), if_neg (by omega), or_add acc _ i (by omega) ha]
        have hmod : (m % 128 + 128) % 128 = m % 128 := by omega
        rw [hmod]
        have hp7 : 2 ^ (7 * (i + 1)) = 2 ^ (7 * i) * 128 := by rw [Nat.mul_add, Nat.pow_add]
        have hlt2 : acc + 2 ^ (7 * i) * (m % 128) < 2 ^ (7 * (i + 1)) := by
          have h1 : 2 ^ (7 * i) * (m % 128 + 1) ≤ 2 ^ (7 * i) * 128 := Nat.mul_le_mul_left _ (by omega)
          rw [Nat.mul_add, Nat.mul_one] at h1
          omega
        have hle : 2 ^ (7 * (i + 1)) ≤ 2 ^ 64 := Nat.pow_le_pow_right (by omega) (by omega)
        rw [Nat.mod_eq_of_lt (by omega), ih (m / 128) (i + 1) _ (by rw [Nat.div_lt_iff_lt_mul (by omega)]; rw [Nat.pow_succ] at hm; exact hm) (Nat.lt_of_le_of_lt (Nat.div_le_self _ _) h64) (by omega) hlt2]
        have hcond : m / 128 < 2 ^ (7 * (cnt - (i + 1))) ↔ m < 2 ^ (7 * (cnt - i)) := by
          rw [show 7 * (cnt - i) = 7 * (cnt - (i + 1)) + 7 from by omega, Nat.pow_add, Nat.div_lt_iff_lt_mul (by omega)]
        by_cases hx : m < 2 ^ (7 * (cnt - i))
        · rw [if_pos (hcond.2 hx), if_pos hx]
          have hv : acc + 2 ^ (7 * i) * (m % 128) + 2 ^ (7 * (i + 1)) * (m / 128) = acc + 2 ^ (7 * i) * m := by
            rw [hp7, Nat.mul_assoc, Nat.add_assoc, ← Nat.mul_add, show m % 128 + 128 * (m / 128) = m from by omega]
          have hlen := (putN_length (m / 128)).1
          rw [hv, List.length_cons, show i + 1 + (putN (m / 128)).length = i + ((putN (m / 128)).length + 1) from by omega]
          congr 3
          rw [Nat.add_sub_cancel]
          obtain ⟨k, hk⟩ : ∃ k, (putN (m / 128)).length = k + 1 := ⟨_, (Nat.succ_pred_eq_of_pos hlen).symm⟩
          rw [hk, Nat.add_sub_cancel, Nat.pow_succ, Nat.mul_comm, Nat.div_div_eq_div_mul]
        · rw [if_neg (fun h => hx (hcond.1 h)), if_neg hx]

/-- how many bytes: the least number of groups of seven bits -/
theorem putN_len_lt : ∀ (f m : Nat), m < 128 ^ f → m < 2 ^ 64 → m < 128 ^ (putN m).length ∧ (1 < (putN m).length → 128 ^ ((putN m).length - 1) ≤ m) := by
  intro f
  induction f with
  | zero =>
    intro m hm h64
    have hm0 : m = 0 := by simpa using hm
    subst hm0
    rw [putN_small 0 (by omega)]
    simp
  | succ f ih =>
    intro m hm h64
    by_cases hs : m < 128
    · rw [putN_small m hs]; simp [hs]
    · have hge : 128 ≤ m := by omega
      have := ih (m / 128) (by rw [Nat.div_lt_iff_lt_mul (by omega)]; rw [Nat.pow_succ] at hm; exact hm) (Nat.lt_of_le_of_lt (Nat.div_le_self _ _) h64)
      have hlen := (putN_length (m / 128)).1
      rw [putN_ge m hge h64]
      obtain ⟨k, hk⟩ : ∃ k, (putN (m / 128)).length = k + 1 := ⟨_, (Nat.succ_pred_eq_of_pos hlen).symm⟩
      rw [hk] at this ⊢
      obtain ⟨h1, h2⟩ := this
      simp only [Nat.add_sub_cancel] at h2 ⊢
      refine ⟨by rw [Nat.pow_succ, ← Nat.div_lt_iff_lt_mul (by omega)]; exact h1, fun _ => ?_⟩
      rcases Nat.eq_zero_or_pos k with h0 | h0
      · subst h0; simpa using hge
      · rw [Nat.pow_succ, ← Nat.le_div_iff_mul_le (by omega)]
        exact h2 (by omega)

theorem pow128 (k : Nat) : 128 ^ k = 2 ^ (7 * k) := by rw [show (128 : Nat) = 2 ^ 7 from rfl, ← Nat.pow_mul]

theorem unsigned_put (n k : Nat) (h64 : n < 2 ^ 64) (hk1 : 1 ≤ k) (hk2 : k ≤ 64) : unsignedL (putN n) (k : Int) = if n < 2 ^ k then (n, (putN n).length, 0) else (0, 0, 4) := by
  have hcn : cntN k = (k + 6) / 7 := rfl
  have hraw : rawL (putN n) (k : Int) = if n < 2 ^ (7 * cntN k) then (n, (putN n).length, n / 128 ^ ((putN n).length - 1), 0) else (0, 0, 0, 4) := by
    unfold rawL
    rw [if_neg (by omega), show ((k : Int)).toNat = k from rfl, raw_putN (cntN k) (by omega) 10 n 0 0 (Nat.lt_of_lt_of_le h64 (by decide)) h64 (by omega) (by omega)]
    simp only [Nat.sub_zero, Nat.zero_add, Nat.mul_zero, Nat.pow_zero, Nat.one_mul, Nat.mod_eq_of_lt h64]
  obtain ⟨hl1, hl2⟩ := putN_len_lt 10 n (Nat.lt_of_lt_of_le h64 (by decide)) h64
  have hlen := putN_length n
  unfold unsignedL
  rw [hraw]
  by_cases hc : n < 2 ^ (7 * cntN k)
  · rw [if_pos hc]
    simp only [ne_eq, not_true_eq_false, if_false, show ((k : Int)).toNat = k from rfl]
    generalize (putN n).length = L at *
    rw [pow128] at hl1 hl2
    unfold beyondL
    by_cases h7 : 7 * L ≤ k
    · rw [if_pos h7, if_pos (Nat.lt_of_lt_of_le hl1 (Nat.pow_le_pow_right (by omega) h7))]
      simp
    · rw [if_neg h7]
      have hLc : L ≤ cntN k := by
        rcases Nat.lt_or_ge 1 L with h1 | h1
        · have h3 := Nat.lt_of_le_of_lt (hl2 h1) hc
          have := (Nat.pow_lt_pow_iff_right (a := 2) (by omega)).1 h3
          omega
        · omega
      have hdiv : n / 128 ^ (L - 1) % 128 / 2 ^ (k + 7 - 7 * L) = n / 2 ^ k := by
        have hlt : n / 128 ^ (L - 1) < 128 := by
          rw [Nat.div_lt_iff_lt_mul (by rw [pow128]; exact Nat.two_pow_pos _), pow128]
          rw [show 7 * L = 7 + 7 * (L - 1) from by omega, Nat.pow_add] at hl1
          exact hl1
        rw [Nat.mod_eq_of_lt hlt, Nat.div_div_eq_div_mul, pow128, ← Nat.pow_add, show 7 * (L - 1) + (k + 7 - 7 * L) = k from by omega]
      simp only [hdiv]
      by_cases hn : n < 2 ^ k
      · rw [if_pos hn, Nat.div_eq_of_lt hn]; simp
      · rw [if_neg hn]
        have : n / 2 ^ k ≠ 0 := by
          have := Nat.div_pos (Nat.le_of_not_lt hn) (Nat.two_pow_pos k)
          omega
        simp [this]
  · have hnk : ¬ n < 2 ^ k := fun h => hc (Nat.lt_of_lt_of_le h (Nat.pow_le_pow_right (by omega) (by omega)))
    rw [if_neg hc, if_neg hnk]
    simp

/-- how many bytes, by the bits that a number needs -/
theorem bitLen_iff : ∀ (f n k : Nat), n < 2 ^ f → f ≤ 64 → (Lib.bitLen n ≤ k ↔ n < 2 ^ k) := by
  intro f
  induction f with
  | zero =>
    intro n k h _
    have : n = 0 := by simpa using h
    subst this
    have h0 : Lib.bitLen 0 = 0 := by decide
    rw [h0]
    simp [Nat.two_pow_pos]
  | succ f ih =>
    intro n k h hf
    by_cases h0 : n = 0
    · subst h0
      have h0 : Lib.bitLen 0 = 0 := by decide
      rw [h0]
      simp [Nat.two_pow_pos]
    · rw [Lib.bitLen_half n h0 (Nat.lt_of_lt_of_le h (Nat.pow_le_pow_right (by omega) hf))]
      have := ih (n / 2)
      rcases Nat.eq_zero_or_pos k with hk | hk
      · subst hk; simp; omega
      · obtain ⟨k, rfl⟩ : ∃ j, k = j + 1 := ⟨k - 1, by omega⟩
        rw [Nat.pow_succ] at h ⊢
        have h2 := ih (n / 2) k (by omega) (by omega)
        constructor
        · intro hh; have := h2.1 (by omega); omega
        · intro hh; have := h2.2 (by omega); omega

theorem sizeL_eq (n : Nat) (h64 : n < 2 ^ 64) : sizeL n = (putN n).length := by
  obtain ⟨hl1, hl2⟩ := putN_len_lt 10 n (Nat.lt_of_lt_of_le h64 (by decide)) h64
  have hlen := putN_length n
  unfold sizeL cntN
  generalize (putN n).length = L at *
  rw [pow128] at hl1 hl2
  have hb1 := (bitLen_iff 64 n (7 * L) h64 (by omega)).2 hl1
  rcases Nat.lt_or_ge 1 L with h1 | h1
  · have h2 := hl2 h1
    have hb2 : ¬ Lib.bitLen n ≤ 7 * (L - 1) := fun h => by
      have := (bitLen_iff 64 n (7 * (L - 1)) h64 (by omega)).1 h
      omega
    omega
  · omega
end Go.Proofs.YtpanlhbdphobdaaGreatDoor

namespace Go.Proofs.YtpanlhbdphobdaaGreatDoor

theorem int_emod_mul (m q : Int) (hq : 0 < q) : m % (128 * q) = m % 128 + 128 * (m / 128 % q) := by
  have h1 := Int.emod_nonneg m (show (128 : Int) ≠ 0 by omega)
  have h2 := Int.emod_lt_of_pos m (show (0 : Int) < 128 by omega)
  have h3 := Int.emod_nonneg (m / 128) (show q ≠ 0 by omega)
  have h4 := Int.emod_lt_of_pos (m / 128) hq
  have h5 : m = (m % 128 + 128 * (m / 128 % q)) + 128 * q * (m / 128 / q) := by
    have e1 := Int.emod_add_mul_ediv (m / 128) q
    have e2 := Int.emod_add_mul_ediv m 128
    rw [Int.mul_assoc, Int.add_assoc, ← Int.mul_add, e1, e2]
  conv => lhs; rw [h5]
  rw [Int.add_mul_emod_self_left, Int.emod_eq_of_lt (by omega) (by omega)]

theorem raw_putS (cnt : Nat) (hcnt : cnt ≤ 10) : ∀ (j : Nat) (m : Int) (i acc : Nat), i < cnt → acc < 2 ^ (7 * i) →
    rawGo cnt (putS j m) i acc = if i + j + 1 ≤ cnt then ((acc + 2 ^ (7 * i) * (m % (2 ^ (7 * (j + 1)) : Nat)).toNat) % 2 ^ 64, i + j + 1, (m / (128 ^ j : Nat) % 128).toNat, 0) else (0, 0, 0, 4) := by
  intro j
  induction j with
  | zero =>
    intro m i acc hi ha
    have hc : (UInt8.ofNat (m % 128).toNat).toNat = (m % 128).toNat := ofNat_lt _ (by omega)
    rw [putS, rawGo, hc, if_neg (by omega), if_pos (by omega), if_pos (by omega), or_add acc _ i (by omega) ha]
    rw [Nat.mod_eq_of_lt (show (m % 128).toNat < 128 by omega)]
    simp
  | succ j ih =>
    intro m i acc hi ha
    have hc : (UInt8.ofNat ((m % 128).toNat + 128)).toNat = (m % 128).toNat + 128 := ofNat_lt _ (by omega)
    rw [putS, rawGo, hc]
    by_cases hl : i + 1 = cnt
    · rw [if_pos ⟨hl, by omega⟩, if_neg (by omega)]
    · rw [if_neg (by omega), if_neg (by omega), or_add acc _ i (by omega) ha]
      have hmod : ((m % 128).toNat + 128) % 128 = (m % 128).toNat := by omega
      rw [hmod]
      have hp7 : 2 ^ (7 * (i + 1)) = 2 ^ (7 * i) * 128 := by rw [Nat.mul_add, Nat.pow_add]
      have hlt2 : acc + 2 ^ (7 * i) * (m % 128).toNat < 2 ^ (7 * (i + 1)) := by
        have h1 : 2 ^ (7 * i) * ((m % 128).toNat + 1) ≤ 2 ^ (7 * i) * 128 := Nat.mul_le_mul_left _ (by omega)
        rw [Nat.mul_add, Nat.mul_one] at h1
        omega
      have hle : 2 ^ (7 * (i + 1)) ≤ 2 ^ 64 := Nat.pow_le_pow_right (by omega) (by omega)
      rw [Nat.mod_eq_of_lt (by omega), ih (m / 128) (i + 1) _ (by omega) hlt2]
      by_cases hx : i + (j + 1) + 1 ≤ cnt
      · rw [if_pos (by omega), if_pos hx]
        have hq : (0 : Int) < (2 ^ (7 * (j + 1)) : Nat) := by have := Nat.two_pow_pos (7 * (j + 1)); omega
        have he : ((2 ^ (7 * (j + 1 + 1)) : Nat) : Int) = 128 * (2 ^ (7 * (j + 1)) : Nat) := by
          rw [show 7 * (j + 1 + 1) = 7 + 7 * (j + 1) from by omega, Nat.pow_add]; omega
        have hm := int_emod_mul m _ hq
        rw [← he] at hm
        have h3 := Int.emod_nonneg (m / 128) (show ((2 ^ (7 * (j + 1)) : Nat) : Int) ≠ 0 by omega)
        have hN : (m % ((2 ^ (7 * (j + 1 + 1)) : Nat) : Int)).toNat = (m % 128).toNat + 128 * (m / 128 % ((2 ^ (7 * (j + 1)) : Nat) : Int)).toNat := by omega
        have hdd : m / 128 / ((128 ^ j : Nat) : Int) = m / ((128 ^ (j + 1) : Nat) : Int) := by
          rw [Int.ediv_ediv_of_nonneg (by omega), Nat.pow_succ, Nat.mul_comm]
          rfl
        rw [hdd, hN, hp7, show i + 1 + j + 1 = i + (j + 1) + 1 from by omega]
        generalize (m / 128 % ((2 ^ (7 * (j + 1)) : Nat) : Int)).toNat = X
        have e : acc + 2 ^ (7 * i) * (m % 128).toNat + 2 ^ (7 * i) * 128 * X = acc + 2 ^ (7 * i) * ((m % 128).toNat + 128 * X) := by
          rw [Nat.mul_add (2 ^ (7 * i)), Nat.mul_assoc, Nat.add_assoc]
        rw [e]
      · rw [if_neg (by omega), if_neg hx]

theorem fits_iff (n : Int) (t : Nat) : (-((2 ^ t : Nat) : Int) ≤ n ∧ n < ((2 ^ t : Nat) : Int)) ↔ magN n < 2 ^ t := by
  unfold magN
  split <;> omega

def fits (k : Nat) (n : Int) : Prop := -((2 ^ (k - 1) : Nat) : Int) ≤ n ∧ n < ((2 ^ (k - 1) : Nat) : Int)

theorem signed_put (n : Int) (h1 : -9223372036854775808 ≤ n) (h2 : n ≤ 9223372036854775807) (k : Nat) (hk1 : 1 ≤ k) (hk2 : k ≤ 64) :
    (fits k n → signedL (putSN n) (k : Int) = (n, (putSN n).length, 0)) ∧ (¬ fits k n → signedL (putSN n) (k : Int) = (0, 0, 4)) := by
  have hcn : cntN k = (k + 6) / 7 := rfl
  have hs := sizeS_bd n h1 h2
  have hmag := magN_lt n h1 h2
  obtain ⟨j, hj⟩ : ∃ j, sizeS n = j + 1 := ⟨sizeS n - 1, by omega⟩
  have hP : putSN n = putS j n := by unfold putSN; rw [hj]; rfl
  have hlen : (putSN n).length = j + 1 := by rw [hP, putS_length]
  have hb1 : magN n < 2 ^ (7 * (j + 1) - 1) := (bitLen_iff 63 (magN n) _ hmag (by omega)).1 (by unfold sizeS at hj; omega)
  have hb2 : ∀ t, 1 ≤ t → t ≤ 7 * j → ¬ magN n < 2 ^ (t - 1) := fun t ht1 ht h => by
    have := (bitLen_iff 63 (magN n) (t - 1) hmag (by omega)).2 h
    unfold sizeS at hj
    omega
  have hfit : fits k n ↔ magN n < 2 ^ (k - 1) := fits_iff n (k - 1)
  have hraw := raw_putS (cntN k) (by omega) j n 0 0 (by omega) (by omega)
  have hR : rawL (putSN n) (k : Int) = rawGo (cntN k) (putS j n) 0 0 := by unfold rawL; rw [if_neg (by omega), hP]; rfl
  unfold signedL
  by_cases hc : j + 1 ≤ cntN k
  · rw [if_pos (by omega)] at hraw
    rw [hR, hraw, hlen, show ((k : Int)).toNat = k from rfl]
    simp only [ne_eq, not_true_eq_false, if_false, Nat.mul_zero, Nat.pow_zero, Nat.one_mul, Nat.zero_add]
    have hn := (fits_iff n (7 * (j + 1) - 1)).2 hb1
    -- n's bits
    have hpow : ((2 ^ (7 * (j + 1)) : Nat) : Int) = 2 * (2 ^ (7 * (j + 1) - 1) : Nat) := by
      obtain ⟨t, ht⟩ : ∃ t, 7 * (j + 1) = t + 1 := ⟨_, (Nat.succ_pred_eq_of_pos (by omega)).symm⟩
      rw [ht, Nat.add_sub_cancel, Nat.pow_succ]; omega
    have hpp := Nat.two_pow_pos (7 * (j + 1) - 1)
    have hN : ∃ N : Nat, (n % ((2 ^ (7 * (j + 1)) : Nat) : Int)).toNat = N ∧ (N < 2 ^ (7 * (j + 1) - 1) ∧ n = N ∨ 2 ^ (7 * (j + 1) - 1) ≤ N ∧ n = (N : Int) - (2 ^ (7 * (j + 1)) : Nat)) ∧ N < 2 ^ (7 * (j + 1)) := by
      refine ⟨_, rfl, ?_, ?_⟩
      · by_cases h0 : 0 ≤ n
        · left
          rw [Int.emod_eq_of_lt h0 (by omega)]; omega
        · right
          have : n % ((2 ^ (7 * (j + 1)) : Nat) : Int) = n + (2 ^ (7 * (j + 1)) : Nat) := by
            rw [← Int.add_emod_right, Int.emod_eq_of_lt (by omega) (by omega)]
          rw [this]; omega
      · have h3 := Int.emod_lt_of_pos n (show (0 : Int) < ((2 ^ (7 * (j + 1)) : Nat) : Int) by omega)
        have h4 := Int.emod_nonneg n (show ((2 ^ (7 * (j + 1)) : Nat) : Int) ≠ 0 by omega)
        omega
    obtain ⟨N, hNe, hNn, hNlt⟩ := hN
    rw [hNe]
    -- the last byte
    have hlast : (n / ((128 ^ j : Nat) : Int) % 128).toNat = N / 2 ^ (7 * j) := by
      rw [pow128]
      have hq : (0 : Int) < ((2 ^ (7 * j) : Nat) : Int) := by have := Nat.two_pow_pos (7 * j); omega
      have h128 : 2 ^ (7 * (j + 1)) = 2 ^ (7 * j) * 128 := by rw [Nat.mul_add, Nat.pow_add]
      have hN128 : N / 2 ^ (7 * j) < 128 := by rw [Nat.div_lt_iff_lt_mul (Nat.two_pow_pos _), Nat.mul_comm, ← h128]; exact hNlt
      have hcast : ((N / 2 ^ (7 * j) : Nat) : Int) = (N : Int) / ((2 ^ (7 * j) : Nat) : Int) := Int.natCast_ediv _ _
      rcases hNn with ⟨_, e⟩ | ⟨_, e⟩
      · rw [e, ← hcast]
        clear hcast
        generalize N / 2 ^ (7 * j) = c at *
        omega
      · rw [e, h128, Int.natCast_mul, Int.sub_eq_add_neg, ← Int.mul_neg, Int.add_mul_ediv_left _ _ (by omega), ← hcast]
        clear hcast
        generalize N / 2 ^ (7 * j) = c at *
        omega
    rw [hlast]
    have hmod : ∀ t, t ≤ 64 → N % 2 ^ 64 % 2 ^ t = N % 2 ^ t := fun t ht => Nat.mod_mod_of_dvd _ (Nat.pow_dvd_pow 2 ht)
    by_cases h7 : 7 * (j + 1) ≤ k
    · have hb : beyondL (N / 2 ^ (7 * j)) (j + 1) k = (0, 0) := by unfold beyondL; rw [if_pos h7]
      have hout : extendL (N % 2 ^ 64) (min (7 * (j + 1)) k) = n := by
        rw [Nat.min_eq_left h7]
        unfold extendL
        rw [hmod _ (by omega), Nat.mod_eq_of_lt hNlt]
        rcases hNn with ⟨a, e⟩ | ⟨a, e⟩
        · rw [if_pos a]; exact e.symm
        · rw [if_neg (by omega)]; exact e.symm
      have hf : fits k n := hfit.2 (Nat.lt_of_lt_of_le hb1 (Nat.pow_le_pow_right (by omega) (by omega)))
      rw [hb, hout]
      exact ⟨fun _ => by simp, fun h => absurd hf h⟩
    · -- the bits beyond
      have hkj : 7 * j < k := by omega
      have hb : beyondL (N / 2 ^ (7 * j)) (j + 1) k = (N / 2 ^ k, 7 * (j + 1) - k) := by
        unfold beyondL
        rw [if_neg h7]
        have hN128 : N / 2 ^ (7 * j) < 128 := by
          rw [Nat.div_lt_iff_lt_mul (Nat.two_pow_pos _)]
          rw [show 7 * (j + 1) = 7 + 7 * j from by omega, Nat.pow_add] at hNlt
          exact hNlt
        rw [Nat.mod_eq_of_lt hN128, Nat.div_div_eq_div_mul, ← Nat.pow_add, show 7 * j + (k + 7 - 7 * (j + 1)) = k from by omega]
      rw [hb, Nat.min_eq_right (by omega)]
      obtain ⟨r, X, hr, hX, hNX⟩ : ∃ r X, N % 2 ^ k = r ∧ N / 2 ^ k = X ∧ N = 2 ^ k * X + r := ⟨_, _, rfl, rfl, (Nat.div_add_mod N (2 ^ k)).symm⟩
      have hrlt : r < 2 ^ k := by rw [← hr]; exact Nat.mod_lt _ (Nat.two_pow_pos k)
      have hk2' : 2 ^ k = 2 * 2 ^ (k - 1) := by
        obtain ⟨t, ht⟩ : ∃ t, k = t + 1 := ⟨_, (Nat.succ_pred_eq_of_pos (by omega)).symm⟩
        rw [ht, Nat.add_sub_cancel, Nat.pow_succ]; omega
      have hPQ : 2 ^ (7 * (j + 1)) = 2 ^ k * 2 ^ (7 * (j + 1) - k) := by rw [← Nat.pow_add, show k + (7 * (j + 1) - k) = 7 * (j + 1) from by omega]
      have hout : extendL (N % 2 ^ 64) k = if r < 2 ^ (k - 1) then (r : Int) else (r : Int) - (2 ^ k : Nat) := by unfold extendL; rw [hmod k hk2, hr]
      rw [hout, hX]
      simp only
      have hQ1 : 2 ≤ 2 ^ (7 * (j + 1) - k) := by
        obtain ⟨t, ht⟩ : ∃ t, 7 * (j + 1) - k = t + 1 := ⟨_, (Nat.succ_pred_eq_of_pos (by omega)).symm⟩
        rw [ht, Nat.pow_succ]; have := Nat.two_pow_pos t; omega
      have hhalf : 2 ^ (k - 1) ≤ 2 ^ (7 * (j + 1) - 1) := Nat.pow_le_pow_right (by omega) (by omega)
      have hXQ : X < 2 ^ (7 * (j + 1) - k) := by rw [← hX, Nat.div_lt_iff_lt_mul (Nat.two_pow_pos k), Nat.mul_comm, ← hPQ]; exact hNlt
      have hX1 : X = 0 ∨ 1 ≤ X := by omega
      have hPX : X ≠ 0 → 2 ^ k ≤ 2 ^ k * X := fun h => Nat.le_mul_of_pos_right _ (by omega)
      have hPXQ : X ≠ 2 ^ (7 * (j + 1) - k) - 1 → 2 ^ k * X + 2 * 2 ^ k ≤ 2 ^ k * 2 ^ (7 * (j + 1) - k) := fun h => by
        have : 2 ^ k * (X + 2) ≤ 2 ^ k * 2 ^ (7 * (j + 1) - k) := Nat.mul_le_mul_left _ (by omega)
        rw [Nat.mul_add] at this
        omega
      have hPXe : X = 2 ^ (7 * (j + 1) - k) - 1 → 2 ^ k * X + 2 ^ k = 2 ^ k * 2 ^ (7 * (j + 1) - k) := fun h => by
        rw [h, Nat.mul_sub, Nat.mul_one]
        have : 2 ^ k * 1 ≤ 2 ^ k * 2 ^ (7 * (j + 1) - k) := Nat.mul_le_mul_left _ (by omega)
        omega
      have hfd : fits k n ↔ -((2 ^ (k - 1) : Nat) : Int) ≤ n ∧ n < ((2 ^ (k - 1) : Nat) : Int) := Iff.rfl
      have hpos : 0 < 7 * (j + 1) - k := by omega
      have hp7 : 2 ^ (7 * (j + 1)) = 2 * 2 ^ (7 * (j + 1) - 1) := by omega
      have hX0 : X = 0 → 2 ^ k * X = 0 := fun h => by rw [h, Nat.mul_zero]
      clear hpow hhalf hX hr hb hout hmod hlast hfit hraw hR hP hb2 hNe hmag hs hcn hc
      generalize 2 ^ (7 * (j + 1)) = W at *
      generalize 2 ^ (7 * (j + 1) - 1) = W1 at *
      generalize 2 ^ (7 * (j + 1) - k) = Q at *
      generalize 2 ^ k * X = PX at *
      generalize 2 ^ k * Q = PQ at *
      generalize 2 ^ k = P at *
      generalize 2 ^ (k - 1) = H at *
      rw [hfd]
      by_cases hr1 : r < H
      · rw [if_pos hr1, if_neg (show ¬ (r : Int) < 0 by omega)]
        by_cases hx : X = 0
        · rw [if_neg (fun h => h.2 hx)]
          have := hX0 hx
          have hnr : n = r := by omega
          exact ⟨fun _ => by rw [hnr], fun h => absurd (show _ ∧ _ by omega) h⟩
        · rw [if_pos ⟨hpos, hx⟩]
          have := hPX hx
          refine ⟨fun h => ?_, fun _ => rfl⟩
          exfalso
          by_cases hy : X = Q - 1
          · have := hPXe hy; omega
          · have := hPXQ hy; omega
      · rw [if_neg hr1, if_pos (show (r : Int) - (P : Nat) < 0 by omega)]
        by_cases hx : X = Q - 1
        · rw [if_neg (fun h => h.2 hx)]
          have := hPXe hx
          have hnr : n = (r : Int) - (P : Nat) := by omega
          exact ⟨fun _ => by rw [hnr], fun h => absurd (show _ ∧ _ by omega) h⟩
        · rw [if_pos ⟨hpos, hx⟩]
          have := hPXQ hx
          refine ⟨fun h => ?_, fun _ => rfl⟩
          exfalso
          by_cases hy : X = 0
          · have := hX0 hy; omega
          · have := hPX hy; omega
  · rw [if_neg (by omega)] at hraw
    rw [hR, hraw]
    have hnf : ¬ fits k n := fun h => hb2 k hk1 (by omega) (hfit.1 h)
    exact ⟨fun h => absurd h hnf, fun _ => by simp⟩
end Go.Proofs.YtpanlhbdphobdaaGreatDoor
