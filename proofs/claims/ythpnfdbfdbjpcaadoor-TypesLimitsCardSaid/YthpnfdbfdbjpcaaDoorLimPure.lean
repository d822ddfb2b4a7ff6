/-
  types: limits' texts: the plain law.
-/
import Derived.Test.YthpnfdbfdbjpcaaDoorNumTxt
import Derived.Test.YthpnfdbfdbjpcaaDoorTypesLaw
import Derived.Lib.AtoiAllCases
import Derived.Lib.ItoaMem
namespace Go.Proofs.YthpnfdbfdbjpcaaDoor
open Go.RowKit
set_option linter.unusedVariables false

/-- limits, told -/
def limL (a b : Int) (wide : Bool) : List UInt8 := Lib.itoa a ++ (32 :: ((if 0 ≤ b then Lib.itoa b else [45]) ++ (if wide then [32, 105, 54, 52] else [])))
/-- a text that is right limits' -/
def Lim (s : List UInt8) (a b : Int) (wide : Bool) : Prop := s = limL a b wide ∧ 0 ≤ a ∧ a ≤ 1000000000 ∧ -1 ≤ b ∧ b ≤ 1000000000

theorem digL_no (c : UInt8) (hc : c.toNat < 48 ∨ 57 < c.toNat) : ∀ n : Nat, c ∉ digL 10 n := by
  intro n
  induction n using Nat.strongRecOn with
  | _ n ih =>
    have hd : ∀ d, d < 10 → c ≠ digC d := fun d h e => by
      have := digC_to d (by omega)
      rw [← e, if_pos h] at this
      omega
    by_cases h : n < 10
    · rw [digL_small h]
      simpa using hd n h
    · rw [digL_big (by omega) (by omega)]
      simp only [List.mem_append, List.mem_singleton, not_or]
      exact ⟨ih _ (by omega), hd _ (by omega)⟩
theorem itoa_no (c : UInt8) (hc : c.toNat < 48 ∨ 57 < c.toNat) (h45 : c ≠ 45) (n : Int) : c ∉ Lib.itoa n := by
  by_cases h : 0 ≤ n
  · obtain ⟨m, rfl⟩ : ∃ m : Nat, n = m := ⟨n.toNat, by omega⟩
    rw [Lib.itoa_nonneg, decDigits_digL]
    exact digL_no c hc m
  · obtain ⟨m, rfl⟩ : ∃ m : Nat, n = -(m : Int) := ⟨(-n).toNat, by omega⟩
    rw [Lib.itoa_neg m (by omega), decDigits_digL]
    simp only [List.mem_cons, not_or]
    exact ⟨h45, digL_no c hc m⟩
theorem itoa_no' (n : Nat) : (45 : UInt8) ∉ Lib.itoa (n : Int) := by
  rw [Lib.itoa_nonneg, decDigits_digL]
  exact digL_no 45 (by decide) n
theorem first_unique {c : UInt8} : ∀ {x x' y y' : List UInt8}, c ∉ x → c ∉ x' → x ++ c :: y = x' ++ c :: y' → x = x' ∧ y = y'
  | [], [], _, _, _, _, e => by simpa using e
  | [], b :: x', _, _, _, h', e => by simp at e h'; exact absurd e.1 h'.1
  | a :: x, [], _, _, h, _, e => by simp at e h; exact absurd e.1.symm h.1
  | a :: x, b :: x', _, _, h, h', e => by
    simp only [List.cons_append, List.cons.injEq] at e
    obtain ⟨k1, k2⟩ := first_unique (fun hh => h (by simp [hh])) (fun hh => h' (by simp [hh])) e.2
    exact ⟨by rw [e.1, k1], k2⟩

/-- the words of a text -/
def wordsS (s : List UInt8) : List (List UInt8) := Lib.splitK [32] 0 (s.count 32) s
theorem wordsS_one {x : List UInt8} (h : (32 : UInt8) ∉ x) : wordsS x = [x] := by
  unfold wordsS
  rw [List.count_eq_zero.2 h]
  rfl
theorem wordsS_cons {x : List UInt8} (h : (32 : UInt8) ∉ x) (y : List UInt8) : wordsS (x ++ 32 :: y) = x :: wordsS y := by
  unfold wordsS
  have hi := index_at (c := 32) (s' := []) (rest := y) x h
  rw [show x ++ ([32] ++ y) = x ++ 32 :: y from rfl] at hi
  rw [List.count_append, List.count_eq_zero.2 h, List.count_cons_self, Nat.zero_add, Lib.splitK, hi]
  have e : (((x.length : Int)) == -1) = false := by simp
  rw [e]
  simp
theorem limL_words (a b : Int) (wide : Bool) : wordsS (limL a b wide) = Lib.itoa a :: (if 0 ≤ b then Lib.itoa b else [45]) :: (if wide then [[105, 54, 52]] else []) := by
  have n32 : ∀ n : Int, (32 : UInt8) ∉ Lib.itoa n := fun n => itoa_no 32 (by decide) (by decide) n
  have nb : (32 : UInt8) ∉ (if 0 ≤ b then Lib.itoa b else [45]) := by
    split
    · exact n32 b
    · decide
  unfold limL
  rw [wordsS_cons (n32 a)]
  generalize (if 0 ≤ b then Lib.itoa b else [45]) = bw at *
  cases wide with
  | false => rw [if_neg (by decide), if_neg (by decide), List.append_nil, wordsS_one nb]
  | true =>
    rw [if_pos rfl, if_pos rfl, wordsS_cons nb, wordsS_one (by decide)]

theorem parse10_dec : ∀ (u : Nat) (r : List UInt8), u ≤ 1000000000 → Lib.parseUint10 0 (digL 10 u ++ r) = Lib.parseUint10 u r := by
  intro u
  induction u using Nat.strongRecOn with
  | _ u ih =>
    intro r hu
    have key : ∀ (d acc : Nat), d < 10 → acc * 10 + d ≤ 1000000000 → Lib.parseUint10 acc (digC d :: r) = Lib.parseUint10 (acc * 10 + d) r := by
      intro d acc hd hm
      have e : (digC d).toNat = 48 + d := by rw [digC_to d (by omega), if_pos hd]
      rw [Lib.parseUint10, e, if_pos (by omega), if_neg (by omega), if_neg (by omega), show 48 + d - 48 = d from by omega]
    by_cases h : u < 10
    · rw [digL_small h, List.singleton_append, key u 0 h (by omega)]
      simp
    · rw [digL_big (by omega) (by omega), List.append_assoc, ih (u / 10) (by omega) _ (by omega), List.singleton_append, key (u % 10) (u / 10) (by omega) (by omega)]
      congr 1
      omega
theorem atoi_dec (u : Nat) (hu : u ≤ 1000000000) : Lib.atoiAll (Lib.itoa (u : Int)) = .ok (u : Int) := by
  rw [Lib.itoa_nonneg, decDigits_digL]
  have hm : Lib.parseMag (digL 10 u) = .ok u := by
    unfold Lib.parseMag
    rw [if_neg digL_ne]
    have := parse10_dec u [] hu
    rw [List.append_nil] at this
    rw [this, Lib.parseUint10]
  obtain ⟨c, r, e, hc⟩ := digL_head_any (b := 10) (by omega) (by omega) u
  have h48 : 48 ≤ c.toNat := by
    unfold dvC at hc
    split at hc
    · omega
    · split at hc <;> omega
  rw [e] at hm ⊢
  rw [Lib.atoiAll_plain c r (by
    intro h; unfold dvC at hc; omega) (by intro h; unfold dvC at hc; omega), hm]
  unfold Lib.signless
  simp only
  rw [if_neg (by omega)]

/-- what the program's reading tells: the words, their numbers, told again -/
theorem parse_yes {s w0 w1 : List UInt8} {r : List (List UInt8)} {m0 m1 : Int} (hw : wordsS s = w0 :: w1 :: r) (h1 : w1 = [45] → m1 = -1) (hs : limL m0 m1 (decide (r ≠ [])) = s) (k0 : 0 ≤ m0) (k1 : m0 ≤ 1000000000) (k2 : m1 ≤ 1000000000) : Lim s m0 m1 (decide (r ≠ [])) := by
  refine ⟨hs.symm, k0, k1, ?_, k2⟩
  by_cases h : 0 ≤ m1
  · omega
  · have h2 := limL_words m0 m1 (decide (r ≠ []))
    rw [hs, hw, if_neg h] at h2
    injection h2 with _ h2
    injection h2 with h2 _
    rw [h1 h2]
    omega
theorem lim_words {s : List UInt8} {a b : Int} {wide : Bool} (h : Lim s a b wide) : ∃ w0 w1 r, wordsS s = w0 :: w1 :: r ∧ Lib.atoiAll w0 = .ok a ∧ (b = -1 ∧ w1 = [45] ∨ 0 ≤ b ∧ w1 ≠ [45] ∧ Lib.atoiAll w1 = .ok b) ∧ wide = decide (r ≠ []) := by
  obtain ⟨hs, h0, h1, h2, h3⟩ := h
  obtain ⟨u, rfl⟩ : ∃ u : Nat, a = u := ⟨a.toNat, by omega⟩
  refine ⟨_, _, _, by rw [hs]; exact limL_words _ _ _, atoi_dec u (by omega), ?_, by cases wide <;> simp⟩
  by_cases hb : 0 ≤ b
  · obtain ⟨v, rfl⟩ : ∃ v : Nat, b = v := ⟨b.toNat, by omega⟩
    rw [if_pos hb]
    refine .inr ⟨hb, ?_, atoi_dec v (by omega)⟩
    intro e
    have := itoa_no' v
    rw [e] at this
    exact this (by simp)
  · rw [if_neg hb]
    exact .inl ⟨by omega, rfl⟩
theorem lim_unique {s : List UInt8} {a b a' b' : Int} {wide wide' : Bool} (h : Lim s a b wide) (h' : Lim s a' b' wide') : a = a' ∧ b = b' ∧ wide = wide' := by
  obtain ⟨w0, w1, r, e, e0, e1, e2⟩ := lim_words h
  obtain ⟨v0, v1, r', f, f0, f1, f2⟩ := lim_words h'
  rw [e] at f
  injection f with g0 f
  injection f with g1 g2
  subst g0 g1 g2
  rw [e0] at f0
  injection f0 with f0
  refine ⟨f0, ?_, by rw [e2, f2]⟩
  rcases e1 with ⟨k1, k2⟩ | ⟨k1, k2, k3⟩
  · rcases f1 with ⟨l1, l2⟩ | ⟨l1, l2, l3⟩
    · rw [k1, l1]
    · exact absurd k2 l2
  · rcases f1 with ⟨l1, l2⟩ | ⟨l1, l2, l3⟩
    · exact absurd l2 k2
    · rw [k3] at l3
      injection l3
/-- ' i64' -/
def suf (wide : Bool) : List UInt8 := if wide then [32, 105, 54, 52] else []
theorem lim_strip {s t : List UInt8} {wide : Bool} (hst : s = t ++ suf wide) (hw : wide = false → ¬ (4 < s.length ∧ s.drop (s.length - 4) = [32, 105, 54, 52])) {a b : Int} {wd : Bool} (h : Lim s a b wd) :
    wd = wide ∧ t = Lib.itoa a ++ 32 :: (if 0 ≤ b then Lib.itoa b else [45]) := by
  obtain ⟨hs, h0, h1, h2, h3⟩ := h
  have hs' : s = (Lib.itoa a ++ 32 :: (if 0 ≤ b then Lib.itoa b else [45])) ++ suf wd := by
    rw [hs]; unfold limL suf; simp
  have n105 : (105 : UInt8) ∉ Lib.itoa a ++ 32 :: (if 0 ≤ b then Lib.itoa b else [45]) := by
    have h := fun n => itoa_no 105 (by decide) (by decide) n
    simp only [List.mem_append, List.mem_cons, not_or]
    refine ⟨h a, by decide, ?_⟩
    split
    · exact h b
    · decide
  have ewd : wd = wide := by
    cases wd with
    | false =>
      cases wide with
      | false => rfl
      | true =>
        exfalso
        apply n105
        have e : s = Lib.itoa a ++ 32 :: (if 0 ≤ b then Lib.itoa b else [45]) := by rw [hs']; simp [suf]
        rw [← e, hst]
        simp [suf]
    | true =>
      cases wide with
      | true => rfl
      | false =>
        exfalso
        refine hw rfl ⟨?_, ?_⟩
        · rw [hs']; simp [suf]; omega
        · rw [hs']
          rw [List.length_append, show (suf true).length = 4 from rfl, Nat.add_sub_cancel, List.drop_left]
          rfl
  refine ⟨ewd, ?_⟩
  rw [ewd, hst] at hs'
  exact List.append_cancel_right hs'
theorem ref_lim {s t x y : List UInt8} {wide : Bool} (hst : s = t ++ suf wide) (hw : wide = false → ¬ (4 < s.length ∧ s.drop (s.length - 4) = [32, 105, 54, 52])) (hx : (32 : UInt8) ∉ x) (ht : t = x ++ 32 :: y) (a b : Int) (wd : Bool) :
    Lim s a b wd ↔ wd = wide ∧ ∃ u : Nat, a = u ∧ readL 10 1000000000 x = some u ∧ ((y = [45] ∧ b = -1) ∨ (y ≠ [45] ∧ ∃ v : Nat, b = v ∧ readL 10 1000000000 y = some v)) := by
  have RI := fun l u => readL_iff (b := 10) (most := 1000000000) (by omega) (by omega) (by omega) l u
  constructor
  · intro h
    obtain ⟨e1, e2⟩ := lim_strip hst hw h
    obtain ⟨hs, h0, h1, h2, h3⟩ := h
    rw [ht] at e2
    obtain ⟨k1, k2⟩ := first_unique hx (itoa_no 32 (by decide) (by decide) a) e2
    obtain ⟨u, rfl⟩ : ∃ u : Nat, a = u := ⟨a.toNat, by omega⟩
    refine ⟨e1, u, rfl, (RI _ _).2 ⟨by rw [k1, Lib.itoa_nonneg, decDigits_digL], by omega⟩, ?_⟩
    by_cases hb : 0 ≤ b
    · obtain ⟨v, rfl⟩ : ∃ v : Nat, b = v := ⟨b.toNat, by omega⟩
      rw [if_pos hb] at k2
      refine .inr ⟨fun e => ?_, v, rfl, (RI _ _).2 ⟨by rw [k2, Lib.itoa_nonneg, decDigits_digL], by omega⟩⟩
      have := itoa_no' v
      rw [← k2, e] at this
      exact this (by simp)
    · rw [if_neg hb] at k2
      exact .inl ⟨k2, by omega⟩
  · rintro ⟨rfl, u, rfl, hr, h⟩
    obtain ⟨k1, k2⟩ := (RI _ _).1 hr
    rcases h with ⟨rfl, rfl⟩ | ⟨hy, v, rfl, hv⟩
    · refine ⟨?_, by omega, by omega, by omega, by omega⟩
      rw [hst, ht, k1]
      unfold limL suf
      rw [Lib.itoa_nonneg, decDigits_digL]
      simp
    · obtain ⟨l1, l2⟩ := (RI _ _).1 hv
      refine ⟨?_, by omega, by omega, by omega, by omega⟩
      rw [hst, ht, k1, l1]
      unfold limL suf
      rw [if_pos (Int.natCast_nonneg v), Lib.itoa_nonneg, Lib.itoa_nonneg, decDigits_digL, decDigits_digL]
      simp
theorem ref_none {s t : List UInt8} {wide : Bool} (hst : s = t ++ suf wide) (hw : wide = false → ¬ (4 < s.length ∧ s.drop (s.length - 4) = [32, 105, 54, 52])) (hx : (32 : UInt8) ∉ t) (a b : Int) (wd : Bool) : ¬ Lim s a b wd := by
  intro h
  obtain ⟨_, e⟩ := lim_strip hst hw h
  exact hx (by rw [e]; simp)
end Go.Proofs.YthpnfdbfdbjpcaaDoor
