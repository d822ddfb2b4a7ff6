/-
  instr: mem, word: contracts.
  instr: form, blocked, word: contracts.
-/
import Derived.Test.YtpanlhbdphobdaaGreatDoorFaAQ
import Derived.Test.YtpanlhbdphobdaaGreatDoorDeAR
import Derived.Laws.BitsAllLaws
namespace Go.Proofs.YtpanlhbdphobdaaGreatDoor
open Go.RowKit
set_option linter.unusedVariables false

theorem and64 (v : Nat) : v &&& 64 = 64 * (v / 64 % 2) := by
  apply Nat.eq_of_testBit_eq
  intro i
  rw [Nat.testBit_and, show (64 : Nat) = 2 ^ 6 from rfl, Nat.testBit_two_pow_mul]
  by_cases h : i = 6
  · subst h
    simp [Nat.testBit, Nat.shiftRight_eq_div_pow]
  · have h1 : Nat.testBit (2 ^ 6) i = false := by rw [Nat.testBit_two_pow]; simp; omega
    rw [h1, Bool.and_false]
    by_cases h2 : 6 ≤ i
    · have h3 : (v / 2 ^ 6 % 2).testBit (i - 6) = false := Nat.testBit_lt_two_pow (Nat.lt_of_lt_of_le (Nat.mod_lt _ (by omega)) (by
        have : 2 ^ 1 ≤ 2 ^ (i - 6) := Nat.pow_le_pow_right (by omega) (by omega)
        omega))
      simp [h3]
    · simp; omega
theorem and64_not (v : Nat) (hv : v < 2 ^ 64) : v &&& (18446744073709551615 - 64) = v - 64 * (v / 64 % 2) := by
  have hj : 2 ^ 7 * (v / 2 ^ 7) ||| v % 2 ^ 6 = 2 ^ 7 * (v / 2 ^ 7) + v % 2 ^ 6 := nat_join 7 _ _ (by simp) (by omega)
  have e : v - 64 * (v / 64 % 2) = 2 ^ 7 * (v / 2 ^ 7) + v % 2 ^ 6 := by omega
  rw [e, ← hj]
  apply Nat.eq_of_testBit_eq
  intro i
  rw [Nat.testBit_and, Nat.testBit_or, show (18446744073709551615 - 64 : Nat) = 2 ^ 64 - (64 + 1) from rfl, Nat.testBit_two_pow_sub_succ (by omega), Nat.testBit_two_pow_mul, Nat.testBit_mod_two_pow, Nat.testBit_div_two_pow]
  have h6 : Nat.testBit 64 i = decide (i = 6) := by rw [show (64 : Nat) = 2 ^ 6 from rfl, Nat.testBit_two_pow]; simp [eq_comm]
  rw [h6]
  by_cases h64 : i < 64
  · by_cases h : i = 6
    · subst h; simp
    · by_cases h7 : 7 ≤ i
      · simp [h, h64, h7, show ¬ i < 6 from by omega, show i - 7 + 7 = i from by omega]
      · simp [h, h64, h7, show i < 6 from by omega]
  · have hz : v.testBit i = false := Nat.testBit_lt_two_pow (Nat.lt_of_lt_of_le hv (Nat.pow_le_pow_right (by omega) (by omega)))
    simp [h64, hz, show ¬ i < 6 from by omega, show i - 7 + 7 = i from by omega]

theorem sumGo_lt (n : Nat) : ∀ (l : List Bool) (i v p x : Nat), (i < n → p = 2 ^ i) → v < 2 ^ min i n → n ≤ 63 → sumGo (n : Int) l i v p = some x → x < 2 ^ n := by
  intro l
  induction l with
  | nil =>
    intro i v p x _ hv hn h
    rw [sumGo] at h
    injection h with h
    subst h
    exact Nat.lt_of_lt_of_le hv (Nat.pow_le_pow_right (by omega) (by omega))
  | cons b r ih =>
    intro i v p x hp hv hn h
    rw [sumGo] at h
    split at h
    · cases h
    · rename_i hne
      by_cases hi : i < n
      · have hpi := hp hi
        have h63 : 2 ^ (i + 1) ≤ 2 ^ 63 := Nat.pow_le_pow_right (by omega) (by omega)
        have hs : 2 ^ (i + 1) = 2 * 2 ^ i := by rw [Nat.pow_succ]; omega
        rw [Nat.min_eq_left (by omega)] at hv
        refine ih (i + 1) _ _ x (fun h2 => by rw [hpi, Nat.mod_eq_of_lt (by omega)]; omega) ?_ hn h
        rw [Nat.min_eq_left (by omega), hs]
        split
        · rw [Nat.mod_eq_of_lt (by omega)]; omega
        · omega
      · have hb : b = false := by
          cases b with
          | false => rfl
          | true => exact absurd ⟨by omega, rfl⟩ hne
        subst hb
        rw [Nat.min_eq_right (by omega)] at hv
        exact ih (i + 1) _ _ x (fun h2 => by omega) (by rw [Nat.min_eq_right (by omega)]; simpa using hv) hn h
theorem unsignedL_lt32 (l : List UInt8) : (unsignedL l 32).1 ≤ 4294967295 := by
  rw [unsigned_law]
  unfold refUnsignedL
  simp only
  split
  · simp
  · cases h : sumGo 32 (readL l 32).1 0 0 1 with
    | none => simp
    | some v =>
      have := sumGo_lt 32 _ 0 0 1 v (fun _ => rfl) (by simp) (by omega) h
      simp only
      omega

/-- one step behind another: where the first one ends badly, all does -/
theorem Out.bind {fl r1 e1 r2 e2 : Int} {E1 E : Nat} {P1 Q : Prop} (h1 : Out fl 0 E1 r1 e1 P1) (hE : E1 ≠ 0 → E = E1) (hr : r1 ≤ r2) (hk : e1 ≠ 0 → e2 = e1) (h : P1 → e1 = 0 → E1 = 0 → Out fl 0 E r2 e2 Q) : Out fl 0 E r2 e2 Q := by
  rcases h1 with ⟨_, a, b, p⟩ | ⟨a, h'⟩
  · exact h p a b
  · have he := hk a
    rcases h' with ⟨x, _⟩ | ⟨_, x, y⟩ | ⟨_, x, y, z⟩
    · exact absurd rfl x
    · exact .inr ⟨by omega, .inr (.inl ⟨rfl, by rw [hE x]; exact x, by rw [hE x]; omega⟩)⟩
    · exact .inr ⟨by omega, .inr (.inr ⟨rfl, by omega, y, by omega⟩)⟩
theorem Out.held {fl r' e e' : Int} {E : Nat} {P : Prop} (h : Out fl e E r' e' P) (he : e ≠ 0) : e' = e := by
  rcases h with ⟨a, _⟩ | ⟨_, ⟨_, a⟩ | ⟨a, _⟩ | ⟨a, _⟩⟩
  · exact absurd a he
  · exact a
  · exact absurd a he
  · exact absurd a he
theorem Out.err {fl r' : Int} {E : Nat} {Q : Prop} {e' : Int} (hE : E ≠ 0) (he : e' = E) : Out fl 0 E r' e' Q := .inr ⟨by omega, .inr (.inl ⟨rfl, hE, he⟩)⟩
theorem Out.ok {fl r' : Int} {E : Nat} {Q : Prop} (hE : E = 0) (h : Q) : Out fl 0 E r' 0 Q := .inl ⟨rfl, rfl, hE, h⟩
theorem failE_held (e : Int) (is : Bool) (k : Int) (h : e ≠ 0) : failE e is k = e := by unfold failE; rw [if_neg (fun x => h x.1)]

/-- an instruction's variable -/
def IV (w : World) (xb : Nat) (code : Int) (a b : Nat) (al : Int) (v : Value) : Prop := w.heap[xb]? = some (.cells #[.int .i64 code, .int .u64 (a : Int), .int .u64 (b : Int), .int .i64 al, v] 28 (0, 0))
theorem IV.keep {w w' : World} {xb : Nat} {code al : Int} {a b : Nat} {v : Value} {S : List Nat} (h : IV w xb code a b al v) (ho : Only S w w') (hx : xb ∉ S) : IV w' xb code a b al v := (ho.block xb (blk_lt h) hx).trans h
theorem IV.set {w : World} {xb : Nat} {code al : Int} {a b : Nat} {v : Value} (h : IV w xb code a b al v) :
    (∀ x : Nat, IV (w.setCell ⟨xb, 1, none⟩ (.int .u64 (x : Int))) xb code x b al v) ∧ (∀ x : Nat, IV (w.setCell ⟨xb, 2, none⟩ (.int .u64 (x : Int))) xb code a x al v) ∧ (∀ x : Int, IV (w.setCell ⟨xb, 3, none⟩ (.int .i64 x)) xb code a b x v) ∧ (∀ x : Value, IV (w.setCell ⟨xb, 4, none⟩ x) xb code a b al x) := by
  refine ⟨fun x => ?_, fun x => ?_, fun x => ?_, fun x => ?_⟩ <;> (unfold IV; rw [setCell_blk h]; rfl)
theorem iv_only (w : World) (xb i : Nat) (u : Value) : Only [xb] w (w.setCell ⟨xb, i, none⟩ u) := Only.setCell w (p := ⟨xb, i, none⟩) (by simp) u

theorem memR_q {l : List UInt8} (h : (unsignedL l 32).2.2 ≠ 0) : (memR l).e = (unsignedL l 32).2.2 := by
  unfold memR; simp [h, failR]
theorem memR_big {l : List UInt8} (h : (unsignedL l 32).2.2 = 0) (h2 : 31 < (unsignedL l 32).1 - 64 * ((unsignedL l 32).1 / 64 % 2)) : (memR l).e = 4 := by
  unfold memR; simp [h, failR, h2]
/-- the rest of a memory's numbers, without a memory's number, or with one -/
theorem memR_zero {l : List UInt8} (h : (unsignedL l 32).2.2 = 0) (h2 : ¬ 31 < (unsignedL l 32).1 - 64 * ((unsignedL l 32).1 / 64 % 2)) (hm : (unsignedL l 32).1 / 64 % 2 = 0) (p : Nat × Nat × Nat) (hp : unsignedL (l.drop (unsignedL l 32).2.1) 64 = p) :
    (memR l).e = p.2.2 ∧ (p.2.2 = 0 → (memR l).k = (unsignedL l 32).2.1 + p.2.1 ∧ (memR l).a = 0 ∧ (memR l).b = p.1 ∧ (memR l).al = (unsignedL l 32).1 ∧ (memR l).l = []) := by
  rw [hm] at h2
  unfold memR
  simp only [h, hm, ne_eq, not_true_eq_false, if_false, h2, List.drop_zero, hp, Nat.zero_ne_one]
  by_cases hz : p.2.2 = 0
  · simp [hz]
  · simp [hz, failR]
theorem memR_one {l : List UInt8} (h : (unsignedL l 32).2.2 = 0) (h2 : ¬ 31 < (unsignedL l 32).1 - 64 * ((unsignedL l 32).1 / 64 % 2)) (hm : (unsignedL l 32).1 / 64 % 2 = 1) (s p : Nat × Nat × Nat) (hs : unsignedL (l.drop (unsignedL l 32).2.1) 32 = s) (hp : unsignedL ((l.drop (unsignedL l 32).2.1).drop s.2.1) 64 = p) :
    (s.2.2 ≠ 0 → (memR l).e = s.2.2) ∧ (s.2.2 = 0 → (memR l).e = p.2.2) ∧ (s.2.2 = 0 → p.2.2 = 0 → (memR l).k = (unsignedL l 32).2.1 + s.2.1 + p.2.1 ∧ (memR l).a = s.1 ∧ (memR l).b = p.1 ∧ (memR l).al = (unsignedL l 32).1 - 64 ∧ (memR l).l = []) := by
  rw [hm] at h2
  unfold memR
  simp only [h, hm, ne_eq, not_true_eq_false, if_false, h2, hs, hp, if_true]
  by_cases hy : s.2.2 = 0
  · by_cases hz : p.2.2 = 0
    · simp [hy, hz]
    · simp [hy, hz, failR]
  · simp [hy, failR]

/-- what a form's numbers leave -/
structure FormStep (w : World) (rb g f c xb : Nat) (A : Option Addr) (bs : List UInt8) (r fl fr tu at_ : Int) (code : Int) (d : DR) (Rm : Int) (en : Ending) (w' : World) : Prop where
  out : ∃ (a b al : Nat) (Al : Option Addr) (cl : Nat) (xs : List Nat) (r' at' e' : Int), en = .returned (.tuple #[]) ∧ Hid (RS w' rb g f c A bs r' fl fr tu at' e') ∧ Hid (IV w' xb code a b al (.slice Al xs.length cl)) ∧ Hid (w'.ownsRow w.heap.size 22 1 (.slice Al xs.length cl) xs.length (xs.map U)) ∧ Hid (Only [f, g, rb, xb] w w') ∧ r ≤ r' ∧ r' ≤ r + Rm ∧ at_ ≤ at' ∧ at' ≤ tu ∧ xs.length ≤ 100 ∧
    Hid (Out fl 0 d.e r' e' (at' = at_ + d.k ∧ a = d.a ∧ b = d.b ∧ al = d.al ∧ xs = d.l))

set_option maxHeartbeats 3200000 in
theorem mem_step (rb g f c xb : Nat) (A : Option Addr) (bs : List UInt8) (r fl fr tu at_ : Int) (code : Int) (w : World) (h : Hid (RS w rb g f c A bs r fl fr tu at_ 0)) (hx : Hid (IV w xb code 0 0 0 (.slice none 0 0))) (hxb : rb < xb)
    (hr1 : 0 ≤ r) (hr2 : r ≤ 890000) (hl : bs.length ≤ 1000) (h1 : 0 ≤ at_) (h2 : at_ ≤ tu) (h4 : tu ≤ (bs.length : Int)) :
    Calls Tryz.prog 86 #[.pointer (some ⟨rb, 0, none⟩), .pointer (some ⟨xb, 0, none⟩)] w (FormStep w rb g f c xb A bs r fl fr tu at_ code (memR (partB bs at_ (tu - at_))) 33) := by
  have HN := hide (number_step rb g f c A bs r fl fr tu at_ 0 32 w h hr1 (by omega) hl h1 h2 h4)
  have hul := unsignedL_lt32 (partB bs at_ (tu - at_))
  obtain ⟨l, hll⟩ : ∃ l, partB bs at_ (tu - at_) = l := ⟨_, rfl⟩
  rw [hll] at HN hul ⊢
  have HL := hide hll; clear hll
  have hne : xb ∉ [f, g, rb] := by have := h.out.lt; have := h.out.cu.lt; simp; omega
  have HNE := hide hne; clear hne
  go_enter Tryz.func86, Tryz.ntmps86
  go_wp2_with fail
  refine HN.out.mono ?_; rintro en w1 ⟨v, r1, at1, e1, rfl, k1, k2, k3, k4, k5, k6, k7, k8, k9⟩
  have hv := step_bd k9.out k7.out hul
  have ha1 : bits BinOp.andNot IntKind.u64 (v : Int) 64 = ((v - 64 * (v / 64 % 2) : Nat) : Int) := by
    have := u64_andNot_nat v 64 (by omega) (by omega)
    rw [and64_not v (by omega)] at this
    simpa using this
  have ha2 : bits BinOp.and IntKind.u64 (v : Int) 64 = ((64 * (v / 64 % 2) : Nat) : Int) := by
    have := u64_and_nat v 64 (by omega) (by omega)
    rw [and64] at this
    simpa using this
  obtain ⟨m, hm⟩ : ∃ m, v / 64 % 2 = m := ⟨_, rfl⟩
  have hm2 : m < 2 := by omega
  have hmv : 64 * m ≤ v := by omega
  rw [hm] at ha1 ha2
  obtain ⟨al, hal⟩ : ∃ al, v - 64 * m = al := ⟨_, rfl⟩
  rw [hal] at ha1
  have halb : al ≤ 4294967295 := by omega
  have HM := hide hm; clear hm
  have HAL := hide hal; clear hal
  obtain ⟨big, hbig⟩ : ∃ b, decide (31 < al) = b := ⟨_, rfl⟩
  have hbig' : decide ((31 : Int) < (al : Int)) = big := by rw [← hbig]; simp <;> omega
  have HF := hide (fail_step rb g f c A bs r1 fl fr tu at1 e1 4 big w1 k1)
  have HBIG := hide hbig; clear hbig
  have hX1 := hide (hx.out.keep k2.out HNE.out)
  go_wp2_with fail
  refine HF.out.mono ?_; rintro en w2 ⟨rfl, m1, m2⟩
  have hX2 := hide (hX1.out.keep m2.out (by have := HNE.out; simp at this ⊢; omega))
  have z3 := frozen_blk hX2.out 3
  have c3 := cell_blk hX2.out 3
  simp at c3
  have hX3 := hide (hX2.out.set.2.2.1 (al : Int))
  have o3 := iv_only w2 xb 3 (.int .i64 (al : Int))
  generalize hw3 : w2.setCell ⟨xb, 3, none⟩ (.int .i64 (al : Int)) = w3 at hX3 o3
  have HW3 := hide hw3; clear hw3
  have hRS3 := hide (m1.out.keep o3 (by simp <;> omega) (by have := h.out.lt; simp; omega) (by have := h.out.lt; have := h.out.cu.lt; simp; omega) (by have := h.out.lt; have := h.out.cu.lt; simp; omega))
  have O3 : Hid (Only [f, g, rb, xb] w w3) := ((k2.out.more (by simp)).trans (m2.out.more (by simp))).trans (o3.more (by simp))
  clear o3
  have hne2 : xb ∉ [f, g, rb] := HNE.out
  obtain ⟨e2, he2⟩ : ∃ e2, failE e1 big 4 = e2 := ⟨_, rfl⟩
  rw [he2] at hRS3
  have HE2 := hide he2; clear he2
  have hrbw := blk_lt h.out.blk
  by_cases hm0 : m = 0
  · have fm : (64 * (m : Int) != 0) = false := by simp; omega
    have HN3 := hide (number_step rb g f c A bs r1 fl fr tu at1 e2 64 w3 hRS3 (by omega) (by omega) hl (by omega) k6 h4)
    have HM0 := hide hm0
    clear hm0 m1 m2
    go_wp2_with fail
    rw [HW3.out]
    refine HN3.out.mono ?_; rintro en w4 ⟨v4, r4, at4, e4, rfl, n1, n2, n3, n4, n5, n6, n7, n8, n9⟩
    have hX4 := hide (hX3.out.keep n2.out hne2)
    have c2 := cell_blk hX4.out 2
    simp at c2
    have z2 := frozen_blk hX4.out 2
    go_wp2_with fail
    go_end0
    have o5 := iv_only w4 xb 2 (.int .u64 (v4 : Int))
    have hRS5 := n1.out.keep o5 (by simp <;> omega) (by have := h.out.lt; simp; omega) (by have := h.out.lt; have := h.out.cu.lt; simp; omega) (by have := h.out.lt; have := h.out.cu.lt; simp; omega)
    refine ⟨0, v4, al, none, 0, [], r4, at4, e4, rfl, hRS5, hX4.out.set.2.1 v4, own_nil _ _ _ _, (O3.out.trans (n2.out.more (by simp))).trans (o5.more (by simp)), by omega, by omega, by omega, n6, by simp, ?_⟩
    refine k9.out.bind (fun x => memR_q x) n3 (fun x => ?_) ?_
    · have : e2 = e1 := by rw [← HE2.out, failE_held _ _ _ x]
      rw [← this]
      exact n9.out.held (by omega)
    · rintro ⟨p1, p2⟩ p3 p4
      subst p3
      have hmq : (unsignedL l 32).1 / 64 % 2 = 0 := by rw [← p1, HM.out, HM0.out]
      have halq : al = (unsignedL l 32).1 - 64 * ((unsignedL l 32).1 / 64 % 2) := by rw [← p1, HM.out, HAL.out]
      cases hbb : big with
      | true =>
        have he : e2 = 4 := by rw [← HE2.out, hbb]; rfl
        have hb4 := HBIG.out
        rw [hbb] at hb4
        have hE := memR_big p4 (by rw [← halq]; simpa using hb4)
        exact Out.err (by omega) (by rw [hE, n9.out.held (by omega), he]; rfl)
      | false =>
        have he : e2 = 0 := by rw [← HE2.out, hbb]; rfl
        have hb4 := HBIG.out
        rw [hbb] at hb4
        have hnb : ¬ 31 < (unsignedL l 32).1 - 64 * ((unsignedL l 32).1 / 64 % 2) := by rw [← halq]; simpa using hb4
        obtain ⟨q1, q2⟩ := memR_zero p4 hnb hmq _ rfl
        have hcs := unsigned_cases l 32
        have hpl := part_len bs at_ (tu - at_) h1 (by omega) (by omega)
        rw [HL.out] at hpl
        have hp : partB bs at1 (tu - at1) = l.drop (unsignedL l 32).2.1 := by rw [p2, partB_drop bs at_ tu _ h1 (by omega), HL.out]
        have n9' := n9.out
        rw [hp, he] at n9'
        refine n9'.bind (fun x => q1) (by omega) (fun _ => rfl) ?_
        rintro ⟨s1, s2⟩ s3 s4
        obtain ⟨d1, d2, d3, d4, d5⟩ := q2 s4
        rw [s3]
        refine Out.ok (by omega) ⟨by omega, by omega, by omega, ?_, by rw [d5]⟩
        rw [d4, halq, hmq]; simp
  · have hm1 : m = 1 := by omega
    have fm : (64 * (m : Int) != 0) = true := by simp; omega
    have HN3 := hide (number_step rb g f c A bs r1 fl fr tu at1 e2 32 w3 hRS3 (by omega) (by omega) hl (by omega) k6 h4)
    have HM1 := hide hm1
    clear hm0 hm1 m1 m2
    go_wp2_with fail
    rw [HW3.out]
    refine HN3.out.mono ?_; rintro en w4 ⟨v4, r4, at4, e4, rfl, n1, n2, n3, n4, n5, n6, n7, n8, n9⟩
    have hX4 := hide (hX3.out.keep n2.out hne2)
    have c1 := cell_blk hX4.out 1
    simp at c1
    have z1 := frozen_blk hX4.out 1
    have o5 := iv_only w4 xb 1 (.int .u64 (v4 : Int))
    have hRS5 := hide (n1.out.keep o5 (by simp <;> omega) (by have := h.out.lt; simp; omega) (by have := h.out.lt; have := h.out.cu.lt; simp; omega) (by have := h.out.lt; have := h.out.cu.lt; simp; omega))
    have hX5 := hide (hX4.out.set.1 v4)
    generalize hw5 : w4.setCell ⟨xb, 1, none⟩ (.int .u64 (v4 : Int)) = w5 at hRS5 hX5 o5
    have HW5 := hide hw5; clear hw5
    have O5 : Hid (Only [f, g, rb, xb] w w5) := (O3.out.trans (n2.out.more (by simp))).trans (o5.more (by simp))
    clear o5
    have HN6 := hide (number_step rb g f c A bs r4 fl fr tu at4 e4 64 w5 hRS5 (by omega) (by omega) hl (by omega) n6 h4)
    go_wp2_with fail
    rw [HW5.out]
    refine HN6.out.mono ?_; rintro en w6 ⟨v6, r6, at6, e6, rfl, j1, j2, j3, j4, j5, j6, j7, j8, j9⟩
    have hX6 := hide (hX5.out.keep j2.out hne2)
    have c2 := cell_blk hX6.out 2
    simp at c2
    have z2 := frozen_blk hX6.out 2
    go_wp2_with fail
    go_end0
    have o7 := iv_only w6 xb 2 (.int .u64 (v6 : Int))
    have hRS7 := j1.out.keep o7 (by simp <;> omega) (by have := h.out.lt; simp; omega) (by have := h.out.lt; have := h.out.cu.lt; simp; omega) (by have := h.out.lt; have := h.out.cu.lt; simp; omega)
    refine ⟨v4, v6, al, none, 0, [], r6, at6, e6, rfl, hRS7, hX6.out.set.2.1 v6, own_nil _ _ _ _, (O5.out.trans (j2.out.more (by simp))).trans (o7.more (by simp)), by omega, by omega, by omega, j6, by simp, ?_⟩
    refine k9.out.bind (fun x => memR_q x) (by omega) (fun x => ?_) ?_
    · have : e2 = e1 := by rw [← HE2.out, failE_held _ _ _ x]
      have h4' := n9.out.held (by omega)
      rw [← this, ← h4']
      exact j9.out.held (by omega)
    · rintro ⟨p1, p2⟩ p3 p4
      subst p3
      have hmq : (unsignedL l 32).1 / 64 % 2 = 1 := by rw [← p1, HM.out, HM1.out]
      have halq : al = (unsignedL l 32).1 - 64 * ((unsignedL l 32).1 / 64 % 2) := by rw [← p1, HM.out, HAL.out]
      cases hbb : big with
      | true =>
        have he : e2 = 4 := by rw [← HE2.out, hbb]; rfl
        have hb4 := HBIG.out
        rw [hbb] at hb4
        have hE := memR_big p4 (by rw [← halq]; simpa using hb4)
        have h4' := n9.out.held (by omega)
        exact Out.err (by omega) (by rw [hE, j9.out.held (by omega), h4', he]; rfl)
      | false =>
        have he : e2 = 0 := by rw [← HE2.out, hbb]; rfl
        have hb4 := HBIG.out
        rw [hbb] at hb4
        have hnb : ¬ 31 < (unsignedL l 32).1 - 64 * ((unsignedL l 32).1 / 64 % 2) := by rw [← halq]; simpa using hb4
        obtain ⟨q1, q2, q3⟩ := memR_one p4 hnb hmq _ _ rfl rfl
        have hcs := unsigned_cases l 32
        have hpl := part_len bs at_ (tu - at_) h1 (by omega) (by omega)
        rw [HL.out] at hpl
        have hp : partB bs at1 (tu - at1) = l.drop (unsignedL l 32).2.1 := by rw [p2, partB_drop bs at_ tu _ h1 (by omega), HL.out]
        have n9' := n9.out
        rw [hp, he] at n9'
        refine n9'.bind (fun x => q1 x) (by omega) (fun x => j9.out.held x) ?_
        rintro ⟨s1, s2⟩ s3 s4
        have hcs2 := unsigned_cases (l.drop (unsignedL l 32).2.1) 32
        rw [List.length_drop] at hcs2
        have hp2 : partB bs at4 (tu - at4) = (l.drop (unsignedL l 32).2.1).drop (unsignedL (l.drop (unsignedL l 32).2.1) 32).2.1 := by
          rw [s2, partB_drop bs at1 tu _ (by omega) (by omega), hp]
        have j9' := j9.out
        rw [hp2, s3] at j9'
        refine j9'.bind (fun x => q2 s4) (by omega) (fun _ => rfl) ?_
        rintro ⟨u1, u2⟩ u3 u4
        obtain ⟨d1, d2, d3, d4, d5⟩ := q3 s4 u4
        have := q2 s4
        rw [u3]
        refine Out.ok (by omega) ⟨by omega, by omega, by omega, ?_, by rw [d5]⟩
        rw [d4, halq, hmq]
end Go.Proofs.YtpanlhbdphobdaaGreatDoor

namespace Go.Proofs.YtpanlhbdphobdaaGreatDoor
open Go.RowKit
set_option linter.unusedVariables false

/-- an instruction's form; below 0: there is none -/
def formV (c : Int) : Int := match opRow c with | none => -1 | some r => r.form
theorem formV_ref {c : Int} (h : (opRow c).isSome = true) : formV c = refForm c := by
  unfold formV
  cases ho : opRow c with
  | none => rw [ho] at h; cases h
  | some r => exact (opRow_ref ho).2.1

set_option maxHeartbeats 1600000 in
theorem form_any (c a b al : Int) (Al : Option Addr) (n cl : Nat) (w : World) (h1 : -9223372036854775808 ≤ c) (h2 : c ≤ 9223372036854775807) :
    Calls Tryz.prog 44 #[.agg #[.int .i64 c, .int .u64 a, .int .u64 b, .int .i64 al, .slice Al n cl]] w fun e w' => e = .returned (.int .i64 (formV c)) ∧ Hid (Below w.heap.size w w') := by
  have hb0 : Below w.heap.size w (w.alloc (.cells #[.int .i64 c, .int .u64 a, .int .u64 b, .int .i64 al, .slice Al n cl] 28)) := (Below.refl _ _).alloc (Nat.le_refl _) _
  have HB0 := hide hb0; clear hb0
  cases ho : opRow c with
  | none =>
    have hv : formV c = -1 := by unfold formV; rw [ho]
    rw [hv]
    have HF := hide (fun W => find_none c W h1 h2 ho)
    clear hv ho
    go_enter Tryz.func44, Tryz.ntmps44
    go_wp2_with fail
    refine (HF.out _).mono ?_; rintro e w1 ⟨rfl, hb1⟩
    have hbel : Hid (Below w.heap.size w w1) := HB0.out.trans (hb1.out.mono (by simp))
    have hbel2 : Hid (Below w.heap.size w (w1.alloc (.cells #[.int .i64 0, .string ⟨#[]⟩, .int .i64 0, .slice none 0 0, .slice none 0 0] 63))) := hbel.out.alloc hbel.out.size _
    go_wp2_with fail
    go_ret
    exact ⟨rfl, hbel2⟩
  | some r =>
    have hv : formV c = r.form := by unfold formV; rw [ho]
    rw [hv]
    have HF := hide (fun W => find_some c r W h1 h2 ho)
    clear hv ho
    go_enter Tryz.func44, Tryz.ntmps44
    go_wp2_with fail
    refine (HF.out _).mono ?_; rintro e w1 ⟨A1, c1, A2, c2, rfl, _, _, hb1⟩
    have hbel : Hid (Below w.heap.size w w1) := HB0.out.trans (hb1.out.mono (by simp))
    have hbel2 : Hid (Below w.heap.size w (w1.alloc (.cells #[.int .i64 r.code, .string r.name, .int .i64 r.form, .slice A1 r.takes.size c1, .slice A2 r.gives.size c2] 63))) := hbel.out.alloc hbel.out.size _
    go_wp2_with fail
    go_ret
    exact ⟨rfl, hbel2⟩

def blockedL (n : Int) : Bool := decide (n = 64 ∨ n = 126 ∨ n = 127)
set_option maxHeartbeats 400000 in
theorem blocked_any (n : Int) (w : World) : Calls Tryz.prog 53 #[.int .u64 n] w fun e w' => e = .returned (.bool (blockedL n)) ∧ w = w' := by
  by_cases h1 : n = 64
  · subst h1
    have hv : blockedL 64 = true := by decide
    rw [hv]
    go_enter Tryz.func53, Tryz.ntmps53
    go_wp2_with fail
    go_ret
    exact ⟨rfl, rfl⟩
  · by_cases h2 : n = 127
    · subst h2
      have hv : blockedL 127 = true := by decide
      rw [hv]
      go_enter Tryz.func53, Tryz.ntmps53
      go_wp2_with fail
      go_ret
      exact ⟨rfl, rfl⟩
    · by_cases h3 : n = 126
      · subst h3
        have hv : blockedL 126 = true := by decide
        rw [hv]
        go_enter Tryz.func53, Tryz.ntmps53
        go_wp2_with fail
        go_ret
        exact ⟨rfl, rfl⟩
      · have hv : blockedL n = false := by unfold blockedL; simp [h1, h2, h3]
        rw [hv]
        have f1 : (n == 64) = false := by simpa using h1
        have f2 : (n == 127) = false := by simpa using h2
        have f3 : (n == 126) = false := by simpa using h3
        clear h1 h2 h3 hv
        go_enter Tryz.func53, Tryz.ntmps53
        go_wp2_with fail
        go_ret
        exact ⟨rfl, rfl⟩

theorem wordN_zero (b : Bool) : wordN b 0 = 0 := by cases b <;> rfl
theorem wordN_lt (b : Bool) (v : Int) : wordN b v ≤ 18446744073709551615 := by
  unfold wordN; split <;> omega

set_option maxHeartbeats 800000 in
theorem word_step (rb g f c : Nat) (A : Option Addr) (bs : List UInt8) (r fl fr tu at_ : Int) (code : Nat) (w : World) (h : Hid (RS w rb g f c A bs r fl fr tu at_ 0))
    (hr1 : 0 ≤ r) (hr2 : r ≤ 890000) (hl : bs.length ≤ 1000) (h1 : 0 ≤ at_) (h2 : at_ ≤ tu) (h4 : tu ≤ (bs.length : Int)) (q : Int × Nat × Nat) (hq : Hid (signedL (partB bs at_ (tu - at_)) (if code = 66 then 64 else 32) = q)) :
    Calls Tryz.prog 87 #[.pointer (some ⟨rb, 0, none⟩), .int .i64 code] w
      (NumStep w rb g f c A bs r fl fr tu at_ 0 (fun v : Nat => .int .u64 v) 0 (wordN (decide (code = 66)) q.1, q.2.1, q.2.2)) := by
  by_cases h66 : code = 66
  · have HS := hide (signed_step rb g f c A bs r fl fr tu at_ 0 64 w h hr1 (by omega) hl h1 h2 h4)
    have hq' := hq.out
    rw [if_pos h66] at hq'
    rw [hq'] at HS
    have hd : decide (code = 66) = true := by simpa using h66
    rw [hd]
    have HD := hide hd
    have f66 : ((code : Int) == 66) = true := by simp; omega
    clear hq' h66 hd
    go_enter Tryz.func87, Tryz.ntmps87
    go_wp2_with fail
    refine HS.out.mono ?_; rintro en w1 ⟨v, r1, at1, e1, rfl, k1, k2, k3, k4, k5, k6, k7, k8, k9⟩
    have hw : IntKind.u64.wrap v = (wordN true v : Int) := by rw [IntKind.wrap_u64]; unfold wordN; simp only [if_true]; omega
    have HW := hide hw; clear hw
    go_wp2_with fail
    rw [HW.out]
    go_ret
    refine ⟨wordN true v, r1, at1, e1, rfl, k1, k2, k3, k4, k5, k6, fun h0 => ?_, k8.out, ?_⟩
    · rw [k7.out h0, wordN_zero]
    · rcases k9.out with ⟨a, b, c', d, d2⟩ | h'
      · exact .inl ⟨a, b, c', by rw [d], d2⟩
      · exact .inr h'
  · have HS := hide (signed_step rb g f c A bs r fl fr tu at_ 0 32 w h hr1 (by omega) hl h1 h2 h4)
    have hq' := hq.out
    rw [if_neg h66] at hq'
    rw [hq'] at HS
    have hd : decide (code = 66) = false := by simpa using h66
    rw [hd]
    have HD := hide hd
    have f66 : ((code : Int) == 66) = false := by simp; omega
    clear hq' h66 hd
    go_enter Tryz.func87, Tryz.ntmps87
    go_wp2_with fail
    refine HS.out.mono ?_; rintro en w1 ⟨v, r1, at1, e1, rfl, k1, k2, k3, k4, k5, k6, k7, k8, k9⟩
    obtain ⟨a, ha⟩ : ∃ a : Nat, IntKind.u64.wrap v = a := ⟨(v % 18446744073709551616).toNat, by rw [IntKind.wrap_u64]; omega⟩
    have hab : a ≤ 18446744073709551615 := by have := ha; rw [IntKind.wrap_u64] at this; omega
    have hw : (a : Int) % 4294967296 = (wordN false v : Int) := by rw [← ha, IntKind.wrap_u64]; unfold wordN; simp only [Bool.false_eq_true, if_false]; omega
    have HW := hide hw
    have HA := hide ha
    clear hw ha
    have HWR := hide (wrap_any a w1 hab)
    go_wp2_with fail
    rw [HA.out]
    refine HWR.out.mono ?_; rintro e w2 ⟨rfl, rfl⟩
    rw [HW.out]
    go_wp2_with fail
    go_ret
    refine ⟨wordN false v, r1, at1, e1, rfl, k1, k2, k3, k4, k5, k6, fun h0 => ?_, k8.out, ?_⟩
    · rw [k7.out h0, wordN_zero]
    · rcases k9.out with ⟨a, b, c', d, d2⟩ | h'
      · exact .inl ⟨a, b, c', by rw [d], d2⟩
      · exact .inr h'
end Go.Proofs.YtpanlhbdphobdaaGreatDoor
