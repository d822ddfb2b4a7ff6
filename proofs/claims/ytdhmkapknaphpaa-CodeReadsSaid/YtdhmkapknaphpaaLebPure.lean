/-
  Numbers as bytes, in plain Lean: what the program's leb answers, as functions of lists and whole numbers.
-/
import Derived.Below
import Derived.Lib.BitFns
namespace Go.Proofs.Ytdhmkapknaphpaa

def cntN (n : Nat) : Nat := (n + 6) / 7

/-- the loop of raw: at byte i, with what has been gathered -/
def rawGo (cnt : Nat) : List UInt8 → Nat → Nat → Nat × Nat × Nat × Nat
  | [], _, _ => (0, 0, 0, 3)
  | c :: r, i, acc =>
    if i + 1 = cnt ∧ 128 ≤ c.toNat then (0, 0, 0, 4)
    else if c.toNat < 128 then (acc ||| (c.toNat % 128 * 2 ^ (7 * i) % 2 ^ 64), i + 1, c.toNat, 0)
    else rawGo cnt r (i + 1) (acc ||| (c.toNat % 128 * 2 ^ (7 * i) % 2 ^ 64))

def rawL (bs : List UInt8) (n : Int) : Nat × Nat × Nat × Nat :=
  if n < 1 ∨ 64 < n then (0, 0, 0, 1) else rawGo (cntN n.toNat) bs 0 0

/-- what lies beyond the last byte's used bits; how many bits -/
def beyondL (c size n : Nat) : Nat × Nat :=
  if 7 * size ≤ n then (0, 0) else (c % 128 / 2 ^ (n + 7 - 7 * size), 7 * size - n)

def unsignedL (bs : List UInt8) (n : Int) : Nat × Nat × Nat :=
  let r := rawL bs n
  if r.2.2.2 ≠ 0 then (0, 0, r.2.2.2)
  else if (beyondL r.2.2.1 r.2.1 n.toNat).1 ≠ 0 then (0, 0, 4)
  else (r.1, r.2.1, 0)

theorem and127 (x : Nat) : x &&& 127 = x % 128 := Nat.and_two_pow_sub_one_eq_mod x 7

theorem rawGo_lt (cnt : Nat) : ∀ (bs : List UInt8) (i acc : Nat), acc < 2 ^ 64 → (rawGo cnt bs i acc).1 < 2 ^ 64 := by
  intro bs
  induction bs with
  | nil => intro i acc h; simp [rawGo]
  | cons c r ih =>
    intro i acc h
    have h2 : acc ||| (c.toNat % 128 * 2 ^ (7 * i) % 2 ^ 64) < 2 ^ 64 := Nat.or_lt_two_pow h (Nat.mod_lt _ (by omega))
    unfold rawGo
    split
    · simp
    · split
      · exact h2
      · exact ih _ _ h2

/-- what comes back is OK, with a last byte below 128, and between 1 and cnt bytes; or an error -/
theorem rawGo_ok (cnt : Nat) : ∀ (bs : List UInt8) (i acc : Nat), i < cnt →
    ((rawGo cnt bs i acc).2.2.2 = 0 ∧ i + 1 ≤ (rawGo cnt bs i acc).2.1 ∧ (rawGo cnt bs i acc).2.1 ≤ cnt ∧ (rawGo cnt bs i acc).2.2.1 < 128) ∨
    ((rawGo cnt bs i acc) = (0, 0, 0, 3)) ∨ ((rawGo cnt bs i acc) = (0, 0, 0, 4)) := by
  intro bs
  induction bs with
  | nil => intro i acc h; simp [rawGo]
  | cons c r ih =>
    intro i acc h
    unfold rawGo
    split
    · simp
    · rename_i h1
      split
      · rename_i h2
        refine .inl ⟨rfl, Nat.le_refl _, ?_, h2⟩
        show i + 1 ≤ cnt
        omega
      · rename_i h2
        have hne : i + 1 ≠ cnt := fun e => h1 ⟨e, by omega⟩
        rcases ih (i + 1) (acc ||| (c.toNat % 128 * 2 ^ (7 * i) % 2 ^ 64)) (by omega) with ⟨a, b, d, e⟩ | hh
        · exact .inl ⟨a, by omega, d, e⟩
        · exact .inr hh

/-- what raw answers: a number of at least one byte, the last one below 128; or an error alone -/
theorem rawL_cases (bs : List UInt8) (n : Int) :
    (∃ v size c, rawL bs n = (v, size, c, 0) ∧ 1 ≤ n ∧ n ≤ 64 ∧ 1 ≤ size ∧ 7 * (size : Int) < n + 7 ∧ c ≤ 127 ∧ size ≤ 10 ∧ v < 2 ^ 64) ∨
    (∃ e, rawL bs n = (0, 0, 0, e) ∧ (e = 1 ∨ e = 3 ∨ e = 4)) := by
  by_cases h : n < 1 ∨ 64 < n
  · exact .inr ⟨1, by unfold rawL; rw [if_pos h], .inl rfl⟩
  · have hR : rawL bs n = rawGo (cntN n.toNat) bs 0 0 := by unfold rawL; rw [if_neg h]
    have hlt := rawGo_lt (cntN n.toNat) bs 0 0 (by omega)
    have hc : 7 * cntN n.toNat < n.toNat + 7 := by unfold cntN; omega
    have hok := rawGo_ok (cntN n.toNat) bs 0 0 (by unfold cntN; omega)
    rw [hR]
    revert hlt hok
    generalize rawGo (cntN n.toNat) bs 0 0 = r
    obtain ⟨v, size, c, e⟩ := r
    intro hlt hok
    rcases hok with ⟨a, b, d, f⟩ | hh | hh
    · simp only at a b d f hlt
      subst a
      exact .inl ⟨v, size, c, rfl, by omega, by omega, b, by omega, by omega, by omega, hlt⟩
    · exact .inr ⟨3, hh, .inr (.inl rfl)⟩
    · exact .inr ⟨4, hh, .inr (.inr rfl)⟩

/-- a number of so many bits with its sign, out of its bits -/
def extendL (v n : Nat) : Int := if v % 2 ^ n < 2 ^ (n - 1) then (v % 2 ^ n : Nat) else (v % 2 ^ n : Nat) - (2 ^ n : Nat)

def signedL (bs : List UInt8) (n : Int) : Int × Nat × Nat :=
  let r := rawL bs n
  if r.2.2.2 ≠ 0 then (0, 0, r.2.2.2)
  else
    let out := extendL r.1 (min (7 * r.2.1) n.toNat)
    let y := beyondL r.2.2.1 r.2.1 n.toNat
    if 0 < y.2 ∧ y.1 ≠ (if out < 0 then 2 ^ y.2 - 1 else 0) then (0, 0, 4) else (out, r.2.1, 0)

/-- the fewest bytes, with fuel -/
def putF : Nat → Nat → List UInt8
  | 0, n => [UInt8.ofNat n]
  | k + 1, n => if n < 128 then [UInt8.ofNat n] else UInt8.ofNat (n % 128 + 128) :: putF k (n / 128)

def putN (n : Nat) : List UInt8 := putF 9 n

theorem putF_more : ∀ (k n : Nat), n < 128 ^ (k + 1) → putF (k + 1) n = putF k n := by
  intro k
  induction k with
  | zero => intro n h; simp only [putF]; rw [if_pos (by simpa using h)]
  | succ k ih =>
    intro n h
    by_cases h1 : n < 128
    · rw [putF, if_pos h1, putF, if_pos h1]
    · rw [putF, if_neg h1, ih (n / 128) (by rw [Nat.div_lt_iff_lt_mul (by omega)]; rw [Nat.pow_succ] at h; exact h)]
      rw [putF, if_neg h1]

theorem putN_small (n : Nat) (h : n < 128) : putN n = [UInt8.ofNat n] := by
  unfold putN; rw [putF, if_pos h]

theorem putN_step (n : Nat) (h : 128 ≤ n) (h2 : n < 2 ^ 64) : putN n = UInt8.ofNat (n % 128 + 128) :: putN (n / 128) := by
  unfold putN
  rw [putF, if_neg (by omega), putF_more 8]
  omega

theorem putF_length : ∀ (k n : Nat), 1 ≤ (putF k n).length ∧ (putF k n).length ≤ k + 1 := by
  intro k
  induction k with
  | zero => intro n; simp [putF]
  | succ k ih =>
    intro n
    rw [putF]
    split
    · simp
    · have := ih (n / 128); simp; omega

def sizeL (n : Nat) : Nat := max (cntN (Lib.bitLen n)) 1
/-- a number's bits without its sign -/
def magN (n : Int) : Nat := if n < 0 then (-n - 1).toNat else n.toNat
def sizeS (n : Int) : Nat := (Lib.bitLen (magN n) + 7) / 7
/-- so many bytes of a number with a sign -/
def putS : Nat → Int → List UInt8
  | 0, n => [UInt8.ofNat (n % 128).toNat]
  | k + 1, n => UInt8.ofNat ((n % 128).toNat + 128) :: putS k (n / 128)
def putSN (n : Int) : List UInt8 := putS (sizeS n - 1) n
theorem putS_length : ∀ (k : Nat) (n : Int), (putS k n).length = k + 1 := by
  intro k
  induction k with
  | zero => intro n; rfl
  | succ k ih => intro n; rw [putS, List.length_cons, ih]
theorem magN_lt (n : Int) (h1 : -9223372036854775808 ≤ n) (h2 : n ≤ 9223372036854775807) : magN n < 2 ^ 63 := by
  unfold magN; simp only [Nat.reducePow]; split <;> omega
theorem sizeS_bd (n : Int) (h1 : -9223372036854775808 ≤ n) (h2 : n ≤ 9223372036854775807) : 1 ≤ sizeS n ∧ sizeS n ≤ 10 := by
  have := Lib.bitLen_le (magN n) 63 (by omega) (magN_lt n h1 h2)
  unfold sizeS; omega

theorem putN_length (n : Nat) : 1 ≤ (putN n).length ∧ (putN n).length ≤ 10 := putF_length 9 n
end Go.Proofs.Ytdhmkapknaphpaa
