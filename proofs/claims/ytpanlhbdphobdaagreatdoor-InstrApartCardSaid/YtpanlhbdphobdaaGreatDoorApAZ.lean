/-
  Instructions as bytes, in plain Lean: which may be; their bytes; decoded these are the instruction again.
-/
import Derived.Test.YtpanlhbdphobdaaGreatDoorApAW
import Derived.Test.YtpanlhbdphobdaaGreatDoorApAY
namespace Go.Proofs.YtpanlhbdphobdaaGreatDoor
open Go.RowKit
set_option linter.unusedVariables false

theorem num_app {V : Type} {res : List UInt8 → V × Nat × Nat} (h : IsNum res) (xs ys : List UInt8) (h0 : (res xs).2.2 = 0) : res (xs ++ ys) = res xs := by
  have := h.pre (xs ++ ys) xs.length
  rw [List.take_left] at this
  exact this (by rw [h0]; omega)
theorem unsigned_at (n k : Nat) (h : n < 2 ^ k) (h64 : n < 2 ^ 64) (hk1 : 1 ≤ k) (hk2 : k ≤ 64) (ys : List UInt8) : unsignedL (putN n ++ ys) (k : Int) = (n, (putN n).length, 0) := by
  have h1 := unsigned_put n k h64 hk1 hk2
  rw [if_pos h] at h1
  rw [num_app (unsigned_num (k : Int)) _ _ (by rw [h1]), h1]
theorem u32_at (n : Nat) (h : n ≤ 4294967295) (ys : List UInt8) : unsignedL (putN n ++ ys) 32 = (n, (putN n).length, 0) := unsigned_at n 32 (by omega) (by omega) (by omega) (by omega) ys
theorem u64_at (n : Nat) (h : n < 2 ^ 64) (ys : List UInt8) : unsignedL (putN n ++ ys) 64 = (n, (putN n).length, 0) := unsigned_at n 64 h h (by omega) (by omega) ys
theorem signed_at (n : Int) (k : Nat) (h1 : -9223372036854775808 ≤ n) (h2 : n ≤ 9223372036854775807) (hk1 : 1 ≤ k) (hk2 : k ≤ 64) (hf : fits k n) (ys : List UInt8) : signedL (putSN n ++ ys) (k : Int) = (n, (putSN n).length, 0) := by
  have h3 := (signed_put n h1 h2 k hk1 hk2).1 hf
  rw [num_app (signed_num (k : Int)) _ _ (by rw [h3]), h3]
theorem drop_at {α : Type} (xs ys : List α) : (xs ++ ys).drop xs.length = ys := by rw [List.drop_left]

/-- an instruction -/
structure XI where
  code : Int
  a : Nat
  b : Nat
  al : Int
  l : List Nat
/-- it lies within the machine's numbers -/
structure XI.In (x : XI) : Prop where
  c1 : -9223372036854775808 ≤ x.code
  c2 : x.code ≤ 9223372036854775807
  a : x.a < 18446744073709551616
  b : x.b < 18446744073709551616
  l1 : -9223372036854775808 ≤ x.al
  l2 : x.al ≤ 9223372036854775807
  l : ∀ n ∈ x.l, n < 18446744073709551616

def small (n : Nat) : Bool := decide (n ≤ 4294967295)
def blocked (n : Nat) : Bool := n == 64 || n == 127 || n == 126
/-- by the form, may it be? -/
def rightF (f : Int) (x : XI) : Bool :=
  if f = 0 then x.a == 0 && (x.b == 0 && (x.al == 0 && x.l.length == 0))
  else if f = 1 then blocked x.a && (x.b == 0 && (x.al == 0 && x.l.length == 0))
  else if f = 2 ∨ f = 4 ∨ f = 6 ∨ f = 7 ∨ f = 9 then small x.a && (x.b == 0 && (x.al == 0 && x.l.length == 0))
  else if f = 3 then small x.a && (x.l.all small && (decide (x.l.length ≤ 100) && (x.b == 0 && x.al == 0)))
  else if f = 5 ∨ f = 10 then small x.a && (small x.b && (x.al == 0 && x.l.length == 0))
  else if f = 8 then small x.a && (decide (0 ≤ x.al) && (decide (x.al ≤ 31) && x.l.length == 0))
  else if f = 11 then (x.code == 66 || small x.a) && (x.b == 0 && (x.al == 0 && x.l.length == 0))
  else false
def rightX (x : XI) : Bool := (opRow x.code).isSome && rightF (refForm x.code) x

/-- the number of a word -/
def constI (wide : Bool) (a : Nat) : Int := if wide then (if a < 9223372036854775808 then (a : Int) else (a : Int) - 18446744073709551616) else (if a % 4294967296 < 2147483648 then ((a % 4294967296 : Nat) : Int) else ((a % 4294967296 : Nat) : Int) - 4294967296)
def headL (c : Int) : List UInt8 := if c < 256 then [UInt8.ofNat c.toNat] else 252 :: putN (c - 64512).toNat
def bodyL (f : Int) (x : XI) : List UInt8 :=
  if f = 1 then [UInt8.ofNat x.a]
  else if f = 2 ∨ f = 4 ∨ f = 6 ∨ f = 7 ∨ f = 9 then putN x.a
  else if f = 3 then putN x.l.length ++ (x.l.flatMap putN ++ putN x.a)
  else if f = 5 ∨ f = 10 then putN x.a ++ putN x.b
  else if f = 8 then (if x.a = 0 then putN x.al.toNat ++ putN x.b else putN (x.al.toNat + 64) ++ (putN x.a ++ putN x.b))
  else if f = 11 then putSN (constI (x.code == 66) x.a)
  else []
def encX (x : XI) : List UInt8 := headL x.code ++ bodyL (refForm x.code) x

theorem constI_bd (wide : Bool) (a : Nat) (h : a < 18446744073709551616) : -9223372036854775808 ≤ constI wide a ∧ constI wide a ≤ 9223372036854775807 ∧ (wide = false → -2147483648 ≤ constI wide a ∧ constI wide a < 2147483648) := by
  cases wide <;> simp only [constI, Bool.false_eq_true, if_false, if_true] <;> split <;> simp <;> omega
theorem constI_back (wide : Bool) (a : Nat) (h : a < 18446744073709551616) (hs : wide = true ∨ a ≤ 4294967295) : wordN wide (constI wide a) = a := by
  cases wide with
  | true => simp only [constI, wordN, if_true]; split <;> omega
  | false =>
    have ha : a ≤ 4294967295 := by rcases hs with h | h; cases h; exact h
    simp only [constI, wordN, Bool.false_eq_true, if_false]; split <;> omega

theorem labels_at : ∀ (l : List Nat) (ys : List UInt8), l.all small = true → labelsL l.length (l.flatMap putN ++ ys) = (0, (l.flatMap putN).length, l) := by
  intro l
  induction l with
  | nil => intro ys _; rfl
  | cons n r ih =>
    intro ys h
    rw [List.all_cons, Bool.and_eq_true] at h
    have hn : n ≤ 4294967295 := by have := h.1; unfold small at this; simpa using this
    rw [List.length_cons, List.flatMap_cons, List.append_assoc, labelsL, u32_at n hn]
    simp only
    rw [if_neg (by simp), drop_at, ih ys h.2]
    simp

/-- the codes that there are -/
def codeIn (c : Int) : Bool := (decide (0 ≤ c) && decide (c < 256) && !decide (c = 252)) || (decide (64512 ≤ c) && decide (c ≤ 64529))
theorem codes_in : ∀ c ∈ allCodes, codeIn c = true := by decide +kernel
theorem codeL0_head (c : Int) (h : codeIn c = true) (ys : List UInt8) : codeL0 (headL c ++ ys) = (c.toNat, (headL c).length, 0) := by
  unfold codeIn at h
  simp only [Bool.or_eq_true, Bool.and_eq_true, decide_eq_true_eq, Bool.not_eq_true', decide_eq_false_iff_not] at h
  unfold headL
  by_cases h2 : c < 256
  · rw [if_pos h2]
    have h3 : (UInt8.ofNat c.toNat).toNat = c.toNat := by rw [UInt8.toNat_ofNat']; omega
    simp only [List.singleton_append, codeL0, h3]
    rw [if_neg (by omega)]
    rfl
  · rw [if_neg h2]
    simp only [List.cons_append, codeL0]
    rw [if_pos (by rfl), u32_at _ (by omega)]
    simp only [List.length_cons]
    rw [show 64512 + min (c - 64512).toNat 65535 = c.toNat from by omega, Nat.add_comm]

/-- what numbers tell -/
def drOf (k : Nat) (x : XI) : DR := ⟨0, k, x.a, x.b, x.al.toNat, x.l⟩
theorem bodyL_back (f : Int) (x : XI) (hf : refForm x.code = f) (hc : codeIn x.code = true) (hx : x.In) (h : rightF f x = true) (ys : List UInt8) : numbersR x.code.toNat (bodyL f x ++ ys) = drOf (bodyL f x).length x := by
  have hcn : ((x.code.toNat : Nat) : Int) = x.code := by
    unfold codeIn at hc
    simp only [Bool.or_eq_true, Bool.and_eq_true, decide_eq_true_eq, Bool.not_eq_true', decide_eq_false_iff_not] at hc
    omega
  obtain ⟨code, a, b, al, l⟩ := x
  obtain ⟨_, _, xa, xb, _, _, xl⟩ := hx
  simp only at hf hc hcn xa xb xl
  unfold numbersR bodyL drOf
  unfold rightF at h
  simp only [hcn, hf] at h ⊢
  by_cases f0 : f = 0
  · subst f0
    rw [if_pos rfl] at h
    simp only [Bool.and_eq_true, beq_iff_eq, List.length_eq_zero_iff] at h
    obtain ⟨rfl, rfl, rfl, rfl⟩ := h
    rfl
  rw [if_neg f0] at h
  by_cases f1 : f = 1
  · subst f1
    rw [if_pos rfl] at h
    simp only [Bool.and_eq_true, beq_iff_eq, List.length_eq_zero_iff] at h
    obtain ⟨ha, rfl, rfl, rfl⟩ := h
    have ha' : a = 64 ∨ a = 126 ∨ a = 127 := by
      unfold blocked at ha
      simp only [Bool.or_eq_true, beq_iff_eq] at ha
      omega
    have h3 : (UInt8.ofNat a).toNat = a := by rw [UInt8.toNat_ofNat']; omega
    simp only [if_true, List.singleton_append, blockR, byteL, h3]
    rw [if_neg (by simp), if_pos ha']
    rfl
  rw [if_neg f1] at h
  rw [if_neg f1, if_neg f1]
  by_cases f2 : f = 2 ∨ f = 4 ∨ f = 6 ∨ f = 7 ∨ f = 9
  · rw [if_pos f2] at h
    rw [if_pos f2, if_pos f2]
    simp only [Bool.and_eq_true, beq_iff_eq, List.length_eq_zero_iff] at h
    obtain ⟨ha, rfl, rfl, rfl⟩ := h
    have ha' : a ≤ 4294967295 := by unfold small at ha; simpa using ha
    simp only [oneR, u32_at a ha']
    rw [if_neg (by simp)]
    rfl
  rw [if_neg f2] at h
  rw [if_neg f2, if_neg f2]
  by_cases f3 : f = 3
  · subst f3
    rw [if_pos rfl] at h
    simp only [if_true]
    simp only [Bool.and_eq_true, beq_iff_eq, decide_eq_true_eq] at h
    obtain ⟨ha, hl, hn, rfl, rfl⟩ := h
    have ha' : a ≤ 4294967295 := by unfold small at ha; simpa using ha
    simp only [tableR, List.append_assoc, u32_at l.length (by omega)]
    rw [if_neg (by simp), if_neg (by omega), drop_at, labels_at l _ hl]
    simp only
    rw [if_neg (by simp), drop_at, u32_at a ha']
    simp only
    rw [if_neg (by simp)]
    simp [Nat.add_assoc]
  rw [if_neg f3] at h
  rw [if_neg f3, if_neg f3]
  by_cases f5 : f = 5 ∨ f = 10
  · rw [if_pos f5] at h
    rw [if_pos f5, if_pos f5]
    simp only [Bool.and_eq_true, beq_iff_eq, List.length_eq_zero_iff] at h
    obtain ⟨ha, hb, rfl, rfl⟩ := h
    have ha' : a ≤ 4294967295 := by unfold small at ha; simpa using ha
    have hb' : b ≤ 4294967295 := by unfold small at hb; simpa using hb
    simp only [twoR, List.append_assoc, u32_at a ha']
    rw [if_neg (by simp), drop_at, u32_at b hb']
    simp only
    rw [if_neg (by simp)]
    simp
  rw [if_neg f5] at h
  rw [if_neg f5, if_neg f5]
  by_cases f8 : f = 8
  · subst f8
    rw [if_pos rfl] at h
    simp only [if_true]
    simp only [Bool.and_eq_true, beq_iff_eq, decide_eq_true_eq, List.length_eq_zero_iff] at h
    obtain ⟨ha, h0, h31, rfl⟩ := h
    have ha' : a ≤ 4294967295 := by unfold small at ha; simpa using ha
    obtain ⟨g, rfl⟩ : ∃ g : Nat, al = (g : Int) := ⟨al.toNat, by omega⟩
    simp only [Int.toNat_natCast]
    by_cases a0 : a = 0
    · subst a0
      rw [if_pos rfl]
      simp only [memR, List.append_assoc, u32_at g (by omega)]
      have m0 : g / 64 % 2 = 0 := by omega
      simp only [m0, Nat.mul_zero, Nat.sub_zero]
      rw [if_neg (by simp), if_neg (by omega)]
      simp only [show ((0 : Nat) = 1) = False from by simp, if_false, ne_eq, not_true_eq_false, List.drop_zero]
      rw [drop_at, u64_at b xb]
      simp
    · rw [if_neg a0]
      simp only [memR, List.append_assoc, u32_at (g + 64) (by omega)]
      have m0 : (g + 64) / 64 % 2 = 1 := by omega
      simp only [m0, Nat.mul_one, Nat.add_sub_cancel]
      rw [if_neg (by simp), if_neg (by omega), if_pos trivial, drop_at, u32_at a ha']
      simp only
      rw [if_neg (by simp), drop_at, u64_at b xb]
      simp only
      rw [if_neg (by simp)]
      simp [Nat.add_assoc]
  rw [if_neg f8] at h
  rw [if_neg f8, if_neg f8]
  by_cases f11 : f = 11
  · subst f11
    rw [if_pos rfl] at h
    simp only [if_true]
    simp only [Bool.and_eq_true, Bool.or_eq_true, beq_iff_eq, List.length_eq_zero_iff] at h
    obtain ⟨ha, rfl, rfl, rfl⟩ := h
    have hb := constI_bd (code == 66) a xa
    have hw : constI_back (code == 66) a xa (by
      rcases ha with h | h
      · left; simpa using h
      · right; unfold small at h; simpa using h) = constI_back (code == 66) a xa (by
      rcases ha with h | h
      · left; simpa using h
      · right; unfold small at h; simpa using h) := rfl
    have hwd := constI_back (code == 66) a xa (by
      rcases ha with h | h
      · left; simpa using h
      · right; unfold small at h; simpa using h)
    clear hw
    by_cases c66 : code = 66
    · subst c66
      have e1 : ((66 : Int) == 66) = true := rfl
      rw [e1] at hb hwd ⊢
      have hs := signed_at (constI true a) 64 hb.1 hb.2.1 (by omega) (by omega) (by unfold fits; omega) ys
      simp only [constR]
      rw [show ((66 : Int).toNat) = 66 from rfl, if_pos rfl, show (64 : Int) = ((64 : Nat) : Int) from rfl, hs]
      simp only
      rw [if_neg (by simp)]
      simp only [decide_true, hwd]
      rfl
    · have e1 : (code == 66) = false := by simpa using c66
      rw [e1] at hb hwd ⊢
      have hb3 := hb.2.2 rfl
      have hs := signed_at (constI false a) 32 hb.1 hb.2.1 (by omega) (by omega) (by unfold fits; omega) ys
      have hcc : code.toNat ≠ 66 := by omega
      simp only [constR]
      rw [if_neg hcc, show (32 : Int) = ((32 : Nat) : Int) from rfl, hs]
      simp only
      rw [if_neg (by simp)]
      simp only [hcc, decide_false, hwd]
      rfl
  rw [if_neg f11] at h
  cases h

theorem right_some {x : XI} (h : rightX x = true) : ∃ r, opRow x.code = some r ∧ codeIn x.code = true ∧ rightF (refForm x.code) x = true := by
  unfold rightX at h
  rw [Bool.and_eq_true] at h
  obtain ⟨r, hr⟩ := Option.isSome_iff_exists.1 h.1
  exact ⟨r, hr, codes_in _ (opRow_code hr), h.2⟩
theorem decode_enc (x : XI) (hx : x.In) (h : rightX x = true) (ys : List UInt8) : decodeR (encX x ++ ys) = (x.code.toNat, drOf (encX x).length x) := by
  obtain ⟨r, hr, hc, hf⟩ := right_some h
  have hcn : ((x.code.toNat : Nat) : Int) = x.code := by
    unfold codeIn at hc
    simp only [Bool.or_eq_true, Bool.and_eq_true, decide_eq_true_eq, Bool.not_eq_true', decide_eq_false_iff_not] at hc
    omega
  have h1 : codeL0 (encX x ++ ys) = (x.code.toNat, (headL x.code).length, 0) := by
    unfold encX
    rw [List.append_assoc]
    exact codeL0_head _ hc _
  obtain ⟨_, _, _, hfo, _, _⟩ := opRow_ref hr
  have h2 : codeE x.code.toNat 0 = 0 := by
    unfold codeE
    rw [if_neg (by simp), hcn, if_neg (by rw [hfo]; simp), if_neg (by rw [hr]; simp)]
  have h3 : (encX x ++ ys).drop (headL x.code).length = bodyL (refForm x.code) x ++ ys := by
    unfold encX
    rw [List.append_assoc, drop_at]
  have h4 := bodyL_back (refForm x.code) x rfl hc hx hf ys
  unfold decodeR
  simp only [h1, h2]
  rw [if_neg (by simp), h3, h4, if_neg (by simp [drOf])]
  simp [drOf, encX]
/-- no right instruction's bytes begin with another one's -/
theorem enc_apart (x y : XI) (hx : x.In) (hy : y.In) (h1 : rightX x = true) (h2 : rightX y = true) (hp : encX x <+: encX y) : x = y := by
  obtain ⟨t, ht⟩ := hp
  have e1 := decode_enc x hx h1 t
  have e2 := decode_enc y hy h2 []
  rw [List.append_nil, ← ht, e1] at e2
  obtain ⟨r, hr, hc, hf⟩ := right_some h1
  obtain ⟨r2, hr2, hc2, hf2⟩ := right_some h2
  have hal : ∀ z : XI, rightX z = true → 0 ≤ z.al := by
    intro z hz
    obtain ⟨_, _, _, hq⟩ := right_some hz
    unfold rightF at hq
    repeat' (split at hq)
    all_goals first | (simp at hq; omega) | (cases hq)
  have a1 := hal x h1
  have a2 := hal y h2
  unfold codeIn at hc hc2
  simp only [Bool.or_eq_true, Bool.and_eq_true, decide_eq_true_eq, Bool.not_eq_true', decide_eq_false_iff_not] at hc hc2
  obtain ⟨xc, xa, xb, xl, xs⟩ := x
  obtain ⟨yc, ya, yb, yl, zs⟩ := y
  simp only [drOf, Prod.mk.injEq, DR.mk.injEq] at e2 hc hc2 a1 a2
  obtain ⟨q1, _, _, q2, q3, q4, q5⟩ := e2
  simp only [XI.mk.injEq]
  exact ⟨by omega, q2, q3, by omega, q5⟩
end Go.Proofs.YtpanlhbdphobdaaGreatDoor
