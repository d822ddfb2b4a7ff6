/-
  Numbers with a sign: their fewest bytes, read again; in plain Lean.
  Instructions as bytes, in plain Lean: which may be; their bytes; decoded these are the instruction again.
-/
import Derived.Test.YtpanlhbdphobdaaGreatDoorDeAV
import Derived.Test.YtpanlhbdphobdaaGreatDoorFaAU
namespace Go.Proofs.YtpanlhbdphobdaaGreatDoor

theorem int_emod_mul (m q : Int) (hq : 0 < q) : m % (128 * q) = m % 128 + 128 * (m / 128 % q) := by
  have h1 := Int.emod_nonneg m (show (128 : Int) ≠ 0 by omega)
  have h2 := Int.emod_lt_of_pos m (show (0 : Int) < 128 by omega)
  have h3 := Int.emod_nonneg (m / 128) (show q ≠ 0 by omega)
  have h4 := Int.emod_lt_of_pos (m / 128) hq
  have h5 : m = (m % 128 + 128 * (m / 128 % q)) + 128 * q * (m / 128 / q) := by
    have e1 := Int.emod_add_mul_ediv (m / 128) q
    have e2 := Int.emod_add_mul_ediv m 128
    rw [Int.mul_assoc, Int.add_assoc, ← Int.mul_add, e1, e2]
  conv => lhs; rw [h5]
  rw [Int.add_mul_emod_self_left, Int.emod_eq_of_lt (by omega) (by omega)]

theorem raw_putS (cnt : Nat) (hcnt : cnt ≤ 10) : ∀ (j : Nat) (m : Int) (i acc : Nat), i < cnt → acc < 2 ^ (7 * i) →
    rawGo cnt (putS j m) i acc = if i + j + 1 ≤ cnt then ((acc + 2 ^ (7 * i) * (m % (2 ^ (7 * (j + 1)) : Nat)).toNat) % 2 ^ 64, i + j + 1, (m / (128 ^ j : Nat) % 128).toNat, 0) else (0, 0, 0, 4) := by
  intro j
  induction j with
  | zero =>
    intro m i acc hi ha
    have hc : (UInt8.ofNat (m % 128).toNat).toNat = (m % 128).toNat := ofNat_lt _ (by omega)
    rw [putS, rawGo, hc, if_neg (by omega), if_pos (by omega), if_pos (by omega), or_add acc _ i (by omega) ha]
    rw [Nat.mod_eq_of_lt (show (m % 128).toNat < 128 by omega)]
    simp
  | succ j ih =>
    intro m i acc hi ha
    have hc : (UInt8.ofNat ((m % 128).toNat + 128)).toNat = (m % 128).toNat + 128 := ofNat_lt _ (by omega)
    rw [putS, rawGo, hc]
    by_cases hl : i + 1 = cnt
    · rw [if_pos ⟨hl, by omega⟩, if_neg (by omega)]
    · rw [if_neg (by omega), if_neg (by omega), or_add acc _ i (by omega) ha]
      have hmod : ((m % 128).toNat + 128) % 128 = (m % 128).toNat := by omega
      rw [hmod]
      have hp7 : 2 ^ (7 * (i + 1)) = 2 ^ (7 * i) * 128 := by rw [Nat.mul_add, Nat.pow_add]
      have hlt2 : acc + 2 ^ (7 * i) * (m % 128).toNat < 2 ^ (7 * (i + 1)) := by
        have h1 : 2 ^ (7 * i) * ((m % 128).toNat + 1) ≤ 2 ^ (7 * i) * 128 := Nat.mul_le_mul_left _ (by omega)
        rw [Nat.mul_add, Nat.mul_one] at h1
        omega
      have hle : 2 ^ (7 * (i + 1)) ≤ 2 ^ 64 := Nat.pow_le_pow_right (by omega) (by omega)
      rw [Nat.mod_eq_of_lt (by omega), ih (m / 128) (i + 1) _ (by omega) hlt2]
      by_cases hx : i + (j + 1) + 1 ≤ cnt
      · rw [if_pos (by omega), if_pos hx]
        have hq : (0 : Int) < (2 ^ (7 * (j + 1)) : Nat) := by have := Nat.two_pow_pos (7 * (j + 1)); omega
        have he : ((2 ^ (7 * (j + 1 + 1)) : Nat) : Int) = 128 * (2 ^ (7 * (j + 1)) : Nat) := by
          rw [show 7 * (j + 1 + 1) = 7 + 7 * (j + 1) from by omega, Nat.pow_add]; omega
        have hm := int_emod_mul m _ hq
        rw [← he] at hm
        have h3 := Int.emod_nonneg (m / 128) (show ((2 ^ (7 * (j + 1)) : Nat) : Int) ≠ 0 by omega)
        have hN : (m % ((2 ^ (7 * (j + 1 + 1)) : Nat) : Int)).toNat = (m % 128).toNat + 128 * (m / 128 % ((2 ^ (7 * (j + 1)) : Nat) : Int)).toNat := by omega
        have hdd : m / 128 / ((128 ^ j : Nat) : Int) = m / ((128 ^ (j + 1) : Nat) : Int) := by
          rw [Int.ediv_ediv_of_nonneg (by omega), Nat.pow_succ, Nat.mul_comm]
          rfl
        rw [hdd, hN, hp7, show i + 1 + j + 1 = i + (j + 1) + 1 from by omega]
        generalize (m / 128 % ((2 ^ (7 * (j + 1)) : Nat) : Int)).toNat = X
        have e : acc + 2 ^ (7 * i) * (m % 128).toNat + 2 ^ (7 * i) * 128 * X = acc + 2 ^ (7 * i) * ((m % 128).toNat + 128 * X) := by
          rw [Nat.mul_add (2 ^ (7 * i)), Nat.mul_assoc, Nat.add_assoc]
        rw [e]
      · rw [if_neg (by omega), if_neg hx]

theorem fits_iff (n : Int) (t : Nat) : (-((2 ^ t : Nat) : Int) ≤ n ∧ n < ((2 ^ t : Nat) : Int)) ↔ magN n < 2 ^ t := by
  unfold magN
  split <;> omega

def fits (k : Nat) (n : Int) : Prop := -((2 ^ (k - 1) : Nat) : Int) ≤ n ∧ n < ((2 ^ (k - 1) : Nat) : Int)

theorem signed_put (n : Int) (h1 : -9223372036854775808 ≤ n) (h2 : n ≤ 9223372036854775807) (k : Nat) (hk1 : 1 ≤ k) (hk2 : k ≤ 64) :
    (fits k n → signedL (putSN n) (k : Int) = (n, (putSN n).length, 0)) ∧ (¬ fits k n → signedL (putSN n) (k : Int) = (0, 0, 4)) := by
  have hcn : cntN k = (k + 6) / 7 := rfl
  have hs := sizeS_bd n h1 h2
  have hmag := magN_lt n h1 h2
  obtain ⟨j, hj⟩ : ∃ j, sizeS n = j + 1 := ⟨sizeS n - 1, by omega⟩
  have hP : putSN n = putS j n := by unfold putSN; rw [hj]; rfl
  have hlen : (putSN n).length = j + 1 := by rw [hP, putS_length]
  have hb1 : magN n < 2 ^ (7 * (j + 1) - 1) := (bitLen_iff 63 (magN n) _ hmag (by omega)).1 (by unfold sizeS at hj; omega)
  have hb2 : ∀ t, 1 ≤ t → t ≤ 7 * j → ¬ magN n < 2 ^ (t - 1) := fun t ht1 ht h => by
    have := (bitLen_iff 63 (magN n) (t - 1) hmag (by omega)).2 h
    unfold sizeS at hj
    omega
  have hfit : fits k n ↔ magN n < 2 ^ (k - 1) := fits_iff n (k - 1)
  have hraw := raw_putS (cntN k) (by omega) j n 0 0 (by omega) (by omega)
  have hR : rawL (putSN n) (k : Int) = rawGo (cntN k) (putS j n) 0 0 := by unfold rawL; rw [if_neg (by omega), hP]; rfl
  unfold signedL
  by_cases hc : j + 1 ≤ cntN k
  · rw [if_pos (by omega)] at hraw
    rw [hR, hraw, hlen, show ((k : Int)).toNat = k from rfl]
    simp only [ne_eq, not_true_eq_false, if_false, Nat.mul_zero, Nat.pow_zero, Nat.one_mul, Nat.zero_add]
    have hn := (fits_iff n (7 * (j + 1) - 1)).2 hb1
    -- n's bits
    have hpow : ((2 ^ (7 * (j + 1)) : Nat) : Int) = 2 * (2 ^ (7 * (j + 1) - 1) : Nat) := by
      obtain ⟨t, ht⟩ : ∃ t, 7 * (j + 1) = t + 1 := ⟨_, (Nat.succ_pred_eq_of_pos (by omega)).symm⟩
      rw [ht, Nat.add_sub_cancel, Nat.pow_succ]; omega
    have hpp := Nat.two_pow_pos (7 * (j + 1) - 1)
    have hN : ∃ N : Nat, (n % ((2 ^ (7 * (j + 1)) : Nat) : Int)).toNat = N ∧ (N < 2 ^ (7 * (j + 1) - 1) ∧ n = N ∨ 2 ^ (7 * (j + 1) - 1) ≤ N ∧ n = (N : Int) - (2 ^ (7 * (j + 1)) : Nat)) ∧ N < 2 ^ (7 * (j + 1)) := by
      refine ⟨_, rfl, ?_, ?_⟩
      · by_cases h0 : 0 ≤ n
        · left
          rw [Int.emod_eq_of_lt h0 (by omega)]; omega
        · right
          have : n % ((2 ^ (7 * (j + 1)) : Nat) : Int) = n + (2 ^ (7 * (j + 1)) : Nat) := by
            rw [← Int.add_emod_right, Int.emod_eq_of_lt (by omega) (by omega)]
          rw [this]; omega
      · have h3 := Int.emod_lt_of_pos n (show (0 : Int) < ((2 ^ (7 * (j + 1)) : Nat) : Int) by omega)
        have h4 := Int.emod_nonneg n (show ((2 ^ (7 * (j + 1)) : Nat) : Int) ≠ 0 by omega)
        omega
    obtain ⟨N, hNe, hNn, hNlt⟩ := hN
    rw [hNe]
    -- the last byte
    have hlast : (n / ((128 ^ j : Nat) : Int) % 128).toNat = N / 2 ^ (7 * j) := by
      rw [pow128]
      have hq : (0 : Int) < ((2 ^ (7 * j) : Nat) : Int) := by have := Nat.two_pow_pos (7 * j); omega
      have h128 : 2 ^ (7 * (j + 1)) = 2 ^ (7 * j) * 128 := by rw [Nat.mul_add, Nat.pow_add]
      have hN128 : N / 2 ^ (7 * j) < 128 := by rw [Nat.div_lt_iff_lt_mul (Nat.two_pow_pos _), Nat.mul_comm, ← h128]; exact hNlt
      have hcast : ((N / 2 ^ (7 * j) : Nat) : Int) = (N : Int) / ((2 ^ (7 * j) : Nat) : Int) := Int.natCast_ediv _ _
      rcases hNn with ⟨_, e⟩ | ⟨_, e⟩
      · rw [e, ← hcast]
        clear hcast
        generalize N / 2 ^ (7 * j) = c at *
        omega
      · rw [e, h128, Int.natCast_mul, Int.sub_eq_add_neg, ← Int.mul_neg, Int.add_mul_ediv_left _ _ (by omega), ← hcast]
        clear hcast
        generalize N / 2 ^ (7 * j) = c at *
        omega
    rw [hlast]
    have hmod : ∀ t, t ≤ 64 → N % 2 ^ 64 % 2 ^ t = N % 2 ^ t := fun t ht => Nat.mod_mod_of_dvd _ (Nat.pow_dvd_pow 2 ht)
    by_cases h7 : 7 * (j + 1) ≤ k
    · have hb : beyondL (N / 2 ^ (7 * j)) (j + 1) k = (0, 0) := by unfold beyondL; rw [if_pos h7]
      have hout : extendL (N % 2 ^ 64) (min (7 * (j + 1)) k) = n := by
        rw [Nat.min_eq_left h7]
        unfold extendL
        rw [hmod _ (by omega), Nat.mod_eq_of_lt hNlt]
        rcases hNn with ⟨a, e⟩ | ⟨a, e⟩
        · rw [if_pos a]; exact e.symm
        · rw [if_neg (by omega)]; exact e.symm
      have hf : fits k n := hfit.2 (Nat.lt_of_lt_of_le hb1 (Nat.pow_le_pow_right (by omega) (by omega)))
      rw [hb, hout]
      exact ⟨fun _ => by simp, fun h => absurd hf h⟩
    · -- the bits beyond
      have hkj : 7 * j < k := by omega
      have hb : beyondL (N / 2 ^ (7 * j)) (j + 1) k = (N / 2 ^ k, 7 * (j + 1) - k) := by
        unfold beyondL
        rw [if_neg h7]
        have hN128 : N / 2 ^ (7 * j) < 128 := by
          rw [Nat.div_lt_iff_lt_mul (Nat.two_pow_pos _)]
          rw [show 7 * (j + 1) = 7 + 7 * j from by omega, Nat.pow_add] at hNlt
          exact hNlt
        rw [Nat.mod_eq_of_lt hN128, Nat.div_div_eq_div_mul, ← Nat.pow_add, show 7 * j + (k + 7 - 7 * (j + 1)) = k from by omega]
      rw [hb, Nat.min_eq_right (by omega)]
      obtain ⟨r, X, hr, hX, hNX⟩ : ∃ r X, N % 2 ^ k = r ∧ N / 2 ^ k = X ∧ N = 2 ^ k * X + r := ⟨_, _, rfl, rfl, (Nat.div_add_mod N (2 ^ k)).symm⟩
      have hrlt : r < 2 ^ k := by rw [← hr]; exact Nat.mod_lt _ (Nat.two_pow_pos k)
      have hk2' : 2 ^ k = 2 * 2 ^ (k - 1) := by
        obtain ⟨t, ht⟩ : ∃ t, k = t + 1 := ⟨_, (Nat.succ_pred_eq_of_pos (by omega)).symm⟩
        rw [ht, Nat.add_sub_cancel, Nat.pow_succ]; omega
      have hPQ : 2 ^ (7 * (j + 1)) = 2 ^ k * 2 ^ (7 * (j + 1) - k) := by rw [← Nat.pow_add, show k + (7 * (j + 1) - k) = 7 * (j + 1) from by omega]
      have hout : extendL (N % 2 ^ 64) k = if r < 2 ^ (k - 1) then (r : Int) else (r : Int) - (2 ^ k : Nat) := by unfold extendL; rw [hmod k hk2, hr]
      rw [hout, hX]
      simp only
      have hQ1 : 2 ≤ 2 ^ (7 * (j + 1) - k) := by
        obtain ⟨t, ht⟩ : ∃ t, 7 * (j + 1) - k = t + 1 := ⟨_, (Nat.succ_pred_eq_of_pos (by omega)).symm⟩
        rw [ht, Nat.pow_succ]; have := Nat.two_pow_pos t; omega
      have hhalf : 2 ^ (k - 1) ≤ 2 ^ (7 * (j + 1) - 1) := Nat.pow_le_pow_right (by omega) (by omega)
      have hXQ : X < 2 ^ (7 * (j + 1) - k) := by rw [← hX, Nat.div_lt_iff_lt_mul (Nat.two_pow_pos k), Nat.mul_comm, ← hPQ]; exact hNlt
      have hX1 : X = 0 ∨ 1 ≤ X := by omega
      have hPX : X ≠ 0 → 2 ^ k ≤ 2 ^ k * X := fun h => Nat.le_mul_of_pos_right _ (by omega)
      have hPXQ : X ≠ 2 ^ (7 * (j + 1) - k) - 1 → 2 ^ k * X + 2 * 2 ^ k ≤ 2 ^ k * 2 ^ (7 * (j + 1) - k) := fun h => by
        have : 2 ^ k * (X + 2) ≤ 2 ^ k * 2 ^ (7 * (j + 1) - k) := Nat.mul_le_mul_left _ (by omega)
        rw [Nat.mul_add] at this
        omega
      have hPXe : X = 2 ^ (7 * (j + 1) - k) - 1 → 2 ^ k * X + 2 ^ k = 2 ^ k * 2 ^ (7 * (j + 1) - k) := fun h => by
        rw [h, Nat.mul_sub, Nat.mul_one]
        have : 2 ^ k * 1 ≤ 2 ^ k * 2 ^ (7 * (j + 1) - k) := Nat.mul_le_mul_left _ (by omega)
        omega
      have hfd : fits k n ↔ -((2 ^ (k - 1) : Nat) : Int) ≤ n ∧ n < ((2 ^ (k - 1) : Nat) : Int) := Iff.rfl
      have hpos : 0 < 7 * (j + 1) - k := by omega
      have hp7 : 2 ^ (7 * (j + 1)) = 2 * 2 ^ (7 * (j + 1) - 1) := by omega
      have hX0 : X = 0 → 2 ^ k * X = 0 := fun h => by rw [h, Nat.mul_zero]
      clear hpow hhalf hX hr hb hout hmod hlast hfit hraw hR hP hb2 hNe hmag hs hcn hc
      generalize 2 ^ (7 * (j + 1)) = W at *
      generalize 2 ^ (7 * (j + 1) - 1) = W1 at *
      generalize 2 ^ (7 * (j + 1) - k) = Q at *
      generalize 2 ^ k * X = PX at *
      generalize 2 ^ k * Q = PQ at *
      generalize 2 ^ k = P at *
      generalize 2 ^ (k - 1) = H at *
      rw [hfd]
      by_cases hr1 : r < H
      · rw [if_pos hr1, if_neg (show ¬ (r : Int) < 0 by omega)]
        by_cases hx : X = 0
        · rw [if_neg (fun h => h.2 hx)]
          have := hX0 hx
          have hnr : n = r := by omega
          exact ⟨fun _ => by rw [hnr], fun h => absurd (show _ ∧ _ by omega) h⟩
        · rw [if_pos ⟨hpos, hx⟩]
          have := hPX hx
          refine ⟨fun h => ?_, fun _ => rfl⟩
          exfalso
          by_cases hy : X = Q - 1
          · have := hPXe hy; omega
          · have := hPXQ hy; omega
      · rw [if_neg hr1, if_pos (show (r : Int) - (P : Nat) < 0 by omega)]
        by_cases hx : X = Q - 1
        · rw [if_neg (fun h => h.2 hx)]
          have := hPXe hx
          have hnr : n = (r : Int) - (P : Nat) := by omega
          exact ⟨fun _ => by rw [hnr], fun h => absurd (show _ ∧ _ by omega) h⟩
        · rw [if_pos ⟨hpos, hx⟩]
          have := hPXQ hx
          refine ⟨fun h => ?_, fun _ => rfl⟩
          exfalso
          by_cases hy : X = 0
          · have := hX0 hy; omega
          · have := hPX hy; omega
  · rw [if_neg (by omega)] at hraw
    rw [hR, hraw]
    have hnf : ¬ fits k n := fun h => hb2 k hk1 (by omega) (hfit.1 h)
    exact ⟨fun h => absurd h hnf, fun _ => by simp⟩
end Go.Proofs.YtpanlhbdphobdaaGreatDoor

namespace Go.Proofs.YtpanlhbdphobdaaGreatDoor
open Go.RowKit
set_option linter.unusedVariables false

theorem num_app {V : Type} {res : List UInt8 → V × Nat × Nat} (h : IsNum res) (xs ys : List UInt8) (h0 : (res xs).2.2 = 0) : res (xs ++ ys) = res xs := by
  have := h.pre (xs ++ ys) xs.length
  rw [List.take_left] at this
  exact this (by rw [h0]; omega)
theorem unsigned_at (n k : Nat) (h : n < 2 ^ k) (h64 : n < 2 ^ 64) (hk1 : 1 ≤ k) (hk2 : k ≤ 64) (ys : List UInt8) : unsignedL (putN n ++ ys) (k : Int) = (n, (putN n).length, 0) := by
  have h1 := unsigned_put n k h64 hk1 hk2
  rw [if_pos h] at h1
  rw [num_app (unsigned_num (k : Int)) _ _ (by rw [h1]), h1]
theorem u32_at (n : Nat) (h : n ≤ 4294967295) (ys : List UInt8) : unsignedL (putN n ++ ys) 32 = (n, (putN n).length, 0) := unsigned_at n 32 (by omega) (by omega) (by omega) (by omega) ys
theorem u64_at (n : Nat) (h : n < 2 ^ 64) (ys : List UInt8) : unsignedL (putN n ++ ys) 64 = (n, (putN n).length, 0) := unsigned_at n 64 h h (by omega) (by omega) ys
theorem signed_at (n : Int) (k : Nat) (h1 : -9223372036854775808 ≤ n) (h2 : n ≤ 9223372036854775807) (hk1 : 1 ≤ k) (hk2 : k ≤ 64) (hf : fits k n) (ys : List UInt8) : signedL (putSN n ++ ys) (k : Int) = (n, (putSN n).length, 0) := by
  have h3 := (signed_put n h1 h2 k hk1 hk2).1 hf
  rw [num_app (signed_num (k : Int)) _ _ (by rw [h3]), h3]
theorem drop_at {α : Type} (xs ys : List α) : (xs ++ ys).drop xs.length = ys := by rw [List.drop_left]

/-- an instruction -/
structure XI where
  code : Int
  a : Nat
  b : Nat
  al : Int
  l : List Nat
/-- it lies within the machine's numbers -/
structure XI.In (x : XI) : Prop where
  c1 : -9223372036854775808 ≤ x.code
  c2 : x.code ≤ 9223372036854775807
  a : x.a < 18446744073709551616
  b : x.b < 18446744073709551616
  l1 : -9223372036854775808 ≤ x.al
  l2 : x.al ≤ 9223372036854775807
  l : ∀ n ∈ x.l, n < 18446744073709551616

def small (n : Nat) : Bool := decide (n ≤ 4294967295)
def blocked (n : Nat) : Bool := n == 64 || n == 127 || n == 126
/-- by the form, may it be? -/
def rightF (f : Int) (x : XI) : Bool :=
  if f = 0 then x.a == 0 && (x.b == 0 && (x.al == 0 && x.l.length == 0))
  else if f = 1 then blocked x.a && (x.b == 0 && (x.al == 0 && x.l.length == 0))
  else if f = 2 ∨ f = 4 ∨ f = 6 ∨ f = 7 ∨ f = 9 then small x.a && (x.b == 0 && (x.al == 0 && x.l.length == 0))
  else if f = 3 then small x.a && (x.l.all small && (decide (x.l.length ≤ 100) && (x.b == 0 && x.al == 0)))
  else if f = 5 ∨ f = 10 then small x.a && (small x.b && (x.al == 0 && x.l.length == 0))
  else if f = 8 then small x.a && (decide (0 ≤ x.al) && (decide (x.al ≤ 31) && x.l.length == 0))
  else if f = 11 then (x.code == 66 || small x.a) && (x.b == 0 && (x.al == 0 && x.l.length == 0))
  else false
def rightX (x : XI) : Bool := (opRow x.code).isSome && rightF (refForm x.code) x

/-- the number of a word -/
def constI (wide : Bool) (a : Nat) : Int := if wide then (if a < 9223372036854775808 then (a : Int) else (a : Int) - 18446744073709551616) else (if a % 4294967296 < 2147483648 then ((a % 4294967296 : Nat) : Int) else ((a % 4294967296 : Nat) : Int) - 4294967296)
def headL (c : Int) : List UInt8 := if c < 256 then [UInt8.ofNat c.toNat] else 252 :: putN (c - 64512).toNat
def bodyL (f : Int) (x : XI) : List UInt8 :=
  if f = 1 then [UInt8.ofNat x.a]
  else if f = 2 ∨ f = 4 ∨ f = 6 ∨ f = 7 ∨ f = 9 then putN x.a
  else if f = 3 then putN x.l.length ++ (x.l.flatMap putN ++ putN x.a)
  else if f = 5 ∨ f = 10 then putN x.a ++ putN x.b
  else if f = 8 then (if x.a = 0 then putN x.al.toNat ++ putN x.b else putN (x.al.toNat + 64) ++ (putN x.a ++ putN x.b))
  else if f = 11 then putSN (constI (x.code == 66) x.a)
  else []
def encX (x : XI) : List UInt8 := headL x.code ++ bodyL (refForm x.code) x

theorem constI_bd (wide : Bool) (a : Nat) (h : a < 18446744073709551616) : -9223372036854775808 ≤ constI wide a ∧ constI wide a ≤ 9223372036854775807 ∧ (wide = false → -2147483648 ≤ constI wide a ∧ constI wide a < 2147483648) := by
  cases wide <;> simp only [constI, Bool.false_eq_true, if_false, if_true] <;> split <;> simp <;> omega
theorem constI_back (wide : Bool) (a : Nat) (h : a < 18446744073709551616) (hs : wide = true ∨ a ≤ 4294967295) : wordN wide (constI wide a) = a := by
  cases wide with
  | true => simp only [constI, wordN, if_true]; split <;> omega
  | false =>
    have ha : a ≤ 4294967295 := by rcases hs with h | h; cases h; exact h
    simp only [constI, wordN, Bool.false_eq_true, if_false]; split <;> omega

theorem labels_at : ∀ (l : List Nat) (ys : List UInt8), l.all small = true → labelsL l.length (l.flatMap putN ++ ys) = (0, (l.flatMap putN).length, l) := by
  intro l
  induction l with
  | nil => intro ys _; rfl
  | cons n r ih =>
    intro ys h
    rw [List.all_cons, Bool.and_eq_true] at h
    have hn : n ≤ 4294967295 := by have := h.1; unfold small at this; simpa using this
    rw [List.length_cons, List.flatMap_cons, List.append_assoc, labelsL, u32_at n hn]
    simp only
    rw [if_neg (by simp), drop_at, ih ys h.2]
    simp

/-- the codes that there are -/
def codeIn (c : Int) : Bool := (decide (0 ≤ c) && decide (c < 256) && !decide (c = 252)) || (decide (64512 ≤ c) && decide (c ≤ 64529))
theorem codes_in : ∀ c ∈ allCodes, codeIn c = true := by decide +kernel
theorem codeL0_head (c : Int) (h : codeIn c = true) (ys : List UInt8) : codeL0 (headL c ++ ys) = (c.toNat, (headL c).length, 0) := by
  unfold codeIn at h
  simp only [Bool.or_eq_true, Bool.and_eq_true, decide_eq_true_eq, Bool.not_eq_true', decide_eq_false_iff_not] at h
  unfold headL
  by_cases h2 : c < 256
  · rw [if_pos h2]
    have h3 : (UInt8.ofNat c.toNat).toNat = c.toNat := by rw [UInt8.toNat_ofNat']; omega
    simp only [List.singleton_append, codeL0, h3]
    rw [if_neg (by omega)]
    rfl
  · rw [if_neg h2]
    simp only [List.cons_append, codeL0]
    rw [if_pos (by rfl), u32_at _ (by omega)]
    simp only [List.length_cons]
    rw [show 64512 + min (c - 64512).toNat 65535 = c.toNat from by omega, Nat.add_comm]

/-- what numbers tell -/
def drOf (k : Nat) (x : XI) : DR := ⟨0, k, x.a, x.b, x.al.toNat, x.l⟩
theorem bodyL_back (f : Int) (x : XI) (hf : refForm x.code = f) (hc : codeIn x.code = true) (hx : x.In) (h : rightF f x = true) (ys : List UInt8) : numbersR x.code.toNat (bodyL f x ++ ys) = drOf (bodyL f x).length x := by
  have hcn : ((x.code.toNat : Nat) : Int) = x.code := by
    unfold codeIn at hc
    simp only [Bool.or_eq_true, Bool.and_eq_true, decide_eq_true_eq, Bool.not_eq_true', decide_eq_false_iff_not] at hc
    omega
  obtain ⟨code, a, b, al, l⟩ := x
  obtain ⟨_, _, xa, xb, _, _, xl⟩ := hx
  simp only at hf hc hcn xa xb xl
  unfold numbersR bodyL drOf
  unfold rightF at h
  simp only [hcn, hf] at h ⊢
  by_cases f0 : f = 0
  · subst f0
    rw [if_pos rfl] at h
    simp only [Bool.and_eq_true, beq_iff_eq, List.length_eq_zero_iff] at h
    obtain ⟨rfl, rfl, rfl, rfl⟩ := h
    rfl
  rw [if_neg f0] at h
  by_cases f1 : f = 1
  · subst f1
    rw [if_pos rfl] at h
    simp only [Bool.and_eq_true, beq_iff_eq, List.length_eq_zero_iff] at h
    obtain ⟨ha, rfl, rfl, rfl⟩ := h
    have ha' : a = 64 ∨ a = 126 ∨ a = 127 := by
      unfold blocked at ha
      simp only [Bool.or_eq_true, beq_iff_eq] at ha
      omega
    have h3 : (UInt8.ofNat a).toNat = a := by rw [UInt8.toNat_ofNat']; omega
    simp only [if_true, List.singleton_append, blockR, byteL, h3]
    rw [if_neg (by simp), if_pos ha']
    rfl
  rw [if_neg f1] at h
  rw [if_neg f1, if_neg f1]
  by_cases f2 : f = 2 ∨ f = 4 ∨ f = 6 ∨ f = 7 ∨ f = 9
  · rw [if_pos f2] at h
    rw [if_pos f2, if_pos f2]
    simp only [Bool.and_eq_true, beq_iff_eq, List.length_eq_zero_iff] at h
    obtain ⟨ha, rfl, rfl, rfl⟩ := h
    have ha' : a ≤ 4294967295 := by unfold small at ha; simpa using ha
    simp only [oneR, u32_at a ha']
    rw [if_neg (by simp)]
    rfl
  rw [if_neg f2] at h
  rw [if_neg f2, if_neg f2]
  by_cases f3 : f = 3
  · subst f3
    rw [if_pos rfl] at h
    simp only [if_true]
    simp only [Bool.and_eq_true, beq_iff_eq, decide_eq_true_eq] at h
    obtain ⟨ha, hl, hn, rfl, rfl⟩ := h
    have ha' : a ≤ 4294967295 := by unfold small at ha; simpa using ha
    simp only [tableR, List.append_assoc, u32_at l.length (by omega)]
    rw [if_neg (by simp), if_neg (by omega), drop_at, labels_at l _ hl]
    simp only
    rw [if_neg (by simp), drop_at, u32_at a ha']
    simp only
    rw [if_neg (by simp)]
    simp [Nat.add_assoc]
  rw [if_neg f3] at h
  rw [if_neg f3, if_neg f3]
  by_cases f5 : f = 5 ∨ f = 10
  · rw [if_pos f5] at h
    rw [if_pos f5, if_pos f5]
    simp only [Bool.and_eq_true, beq_iff_eq, List.length_eq_zero_iff] at h
    obtain ⟨ha, hb, rfl, rfl⟩ := h
    have ha' : a ≤ 4294967295 := by unfold small at ha; simpa using ha
    have hb' : b ≤ 4294967295 := by unfold small at hb; simpa using hb
    simp only [twoR, List.append_assoc, u32_at a ha']
    rw [if_neg (by simp), drop_at, u32_at b hb']
    simp only
    rw [if_neg (by simp)]
    simp
  rw [if_neg f5] at h
  rw [if_neg f5, if_neg f5]
  by_cases f8 : f = 8
  · subst f8
    rw [if_pos rfl] at h
    simp only [if_true]
    simp only [Bool.and_eq_true, beq_iff_eq, decide_eq_true_eq, List.length_eq_zero_iff] at h
    obtain ⟨ha, h0, h31, rfl⟩ := h
    have ha' : a ≤ 4294967295 := by unfold small at ha; simpa using ha
    obtain ⟨g, rfl⟩ : ∃ g : Nat, al = (g : Int) := ⟨al.toNat, by omega⟩
    simp only [Int.toNat_natCast]
    by_cases a0 : a = 0
    · subst a0
      rw [if_pos rfl]
      simp only [memR, List.append_assoc, u32_at g (by omega)]
      have m0 : g / 64 % 2 = 0 := by omega
      simp only [m0, Nat.mul_zero, Nat.sub_zero]
      rw [if_neg (by simp), if_neg (by omega)]
      simp only [show ((0 : Nat) = 1) = False from by simp, if_false, ne_eq, not_true_eq_false, List.drop_zero]
      rw [drop_at, u64_at b xb]
      simp
    · rw [if_neg a0]
      simp only [memR, List.append_assoc, u32_at (g + 64) (by omega)]
      have m0 : (g + 64) / 64 % 2 = 1 := by omega
      simp only [m0, Nat.mul_one, Nat.add_sub_cancel]
      rw [if_neg (by simp), if_neg (by omega), if_pos trivial, drop_at, u32_at a ha']
      simp only
      rw [if_neg (by simp), drop_at, u64_at b xb]
      simp only
      rw [if_neg (by simp)]
      simp [Nat.add_assoc]
  rw [if_neg f8] at h
  rw [if_neg f8, if_neg f8]
  by_cases f11 : f = 11
  · subst f11
    rw [if_pos rfl] at h
    simp only [if_true]
    simp only [Bool.and_eq_true, Bool.or_eq_true, beq_iff_eq, List.length_eq_zero_iff] at h
    obtain ⟨ha, rfl, rfl, rfl⟩ := h
    have hb := constI_bd (code == 66) a xa
    have hw : constI_back (code == 66) a xa (by
      rcases ha with h | h
      · left; simpa using h
      · right; unfold small at h; simpa using h) = constI_back (code == 66) a xa (by
      rcases ha with h | h
      · left; simpa using h
      · right; unfold small at h; simpa using h) := rfl
    have hwd := constI_back (code == 66) a xa (by
      rcases ha with h | h
      · left; simpa using h
      · right; unfold small at h; simpa using h)
    clear hw
    by_cases c66 : code = 66
    · subst c66
      have e1 : ((66 : Int) == 66) = true := rfl
      rw [e1] at hb hwd ⊢
      have hs := signed_at (constI true a) 64 hb.1 hb.2.1 (by omega) (by omega) (by unfold fits; omega) ys
      simp only [constR]
      rw [show ((66 : Int).toNat) = 66 from rfl, if_pos rfl, show (64 : Int) = ((64 : Nat) : Int) from rfl, hs]
      simp only
      rw [if_neg (by simp)]
      simp only [decide_true, hwd]
      rfl
    · have e1 : (code == 66) = false := by simpa using c66
      rw [e1] at hb hwd ⊢
      have hb3 := hb.2.2 rfl
      have hs := signed_at (constI false a) 32 hb.1 hb.2.1 (by omega) (by omega) (by unfold fits; omega) ys
      have hcc : code.toNat ≠ 66 := by omega
      simp only [constR]
      rw [if_neg hcc, show (32 : Int) = ((32 : Nat) : Int) from rfl, hs]
      simp only
      rw [if_neg (by simp)]
      simp only [hcc, decide_false, hwd]
      rfl
  rw [if_neg f11] at h
  cases h

theorem right_some {x : XI} (h : rightX x = true) : ∃ r, opRow x.code = some r ∧ codeIn x.code = true ∧ rightF (refForm x.code) x = true := by
  unfold rightX at h
  rw [Bool.and_eq_true] at h
  obtain ⟨r, hr⟩ := Option.isSome_iff_exists.1 h.1
  exact ⟨r, hr, codes_in _ (opRow_code hr), h.2⟩
theorem decode_enc (x : XI) (hx : x.In) (h : rightX x = true) (ys : List UInt8) : decodeR (encX x ++ ys) = (x.code.toNat, drOf (encX x).length x) := by
  obtain ⟨r, hr, hc, hf⟩ := right_some h
  have hcn : ((x.code.toNat : Nat) : Int) = x.code := by
    unfold codeIn at hc
    simp only [Bool.or_eq_true, Bool.and_eq_true, decide_eq_true_eq, Bool.not_eq_true', decide_eq_false_iff_not] at hc
    omega
  have h1 : codeL0 (encX x ++ ys) = (x.code.toNat, (headL x.code).length, 0) := by
    unfold encX
    rw [List.append_assoc]
    exact codeL0_head _ hc _
  obtain ⟨_, _, _, hfo, _, _⟩ := opRow_ref hr
  have h2 : codeE x.code.toNat 0 = 0 := by
    unfold codeE
    rw [if_neg (by simp), hcn, if_neg (by rw [hfo]; simp), if_neg (by rw [hr]; simp)]
  have h3 : (encX x ++ ys).drop (headL x.code).length = bodyL (refForm x.code) x ++ ys := by
    unfold encX
    rw [List.append_assoc, drop_at]
  have h4 := bodyL_back (refForm x.code) x rfl hc hx hf ys
  unfold decodeR
  simp only [h1, h2]
  rw [if_neg (by simp), h3, h4, if_neg (by simp [drOf])]
  simp [drOf, encX]
/-- no right instruction's bytes begin with another one's -/
theorem enc_apart (x y : XI) (hx : x.In) (hy : y.In) (h1 : rightX x = true) (h2 : rightX y = true) (hp : encX x <+: encX y) : x = y := by
  obtain ⟨t, ht⟩ := hp
  have e1 := decode_enc x hx h1 t
  have e2 := decode_enc y hy h2 []
  rw [List.append_nil, ← ht, e1] at e2
  obtain ⟨r, hr, hc, hf⟩ := right_some h1
  obtain ⟨r2, hr2, hc2, hf2⟩ := right_some h2
  have hal : ∀ z : XI, rightX z = true → 0 ≤ z.al := by
    intro z hz
    obtain ⟨_, _, _, hq⟩ := right_some hz
    unfold rightF at hq
    repeat' (split at hq)
    all_goals first | (simp at hq; omega) | (cases hq)
  have a1 := hal x h1
  have a2 := hal y h2
  unfold codeIn at hc hc2
  simp only [Bool.or_eq_true, Bool.and_eq_true, decide_eq_true_eq, Bool.not_eq_true', decide_eq_false_iff_not] at hc hc2
  obtain ⟨xc, xa, xb, xl, xs⟩ := x
  obtain ⟨yc, ya, yb, yl, zs⟩ := y
  simp only [drOf, Prod.mk.injEq, DR.mk.injEq] at e2 hc hc2 a1 a2
  obtain ⟨q1, _, _, q2, q3, q4, q5⟩ := e2
  simp only [XI.mk.injEq]
  exact ⟨by omega, q2, q3, by omega, q5⟩
end Go.Proofs.YtpanlhbdphobdaaGreatDoor
