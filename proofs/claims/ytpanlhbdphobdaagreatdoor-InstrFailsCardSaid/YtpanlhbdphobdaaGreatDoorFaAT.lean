/-
  instr: numbers: contract.
-/
import Derived.Test.YtpanlhbdphobdaaGreatDoorFaAS
namespace Go.Proofs.YtpanlhbdphobdaaGreatDoor
open Go.RowKit
set_option linter.unusedVariables false

theorem oneR_q (l : List UInt8) : ((unsignedL l 32).2.2 ≠ 0 → (oneR l).e = (unsignedL l 32).2.2) ∧ ((unsignedL l 32).2.2 = 0 → oneR l = ⟨0, (unsignedL l 32).2.1, (unsignedL l 32).1, 0, 0, []⟩) := by
  unfold oneR
  constructor
  · intro h; simp [h, failR]
  · intro h; simp [h]
theorem twoR_q (l : List UInt8) (p : Nat × Nat × Nat) (hp : unsignedL (l.drop (unsignedL l 32).2.1) 32 = p) : ((unsignedL l 32).2.2 ≠ 0 → (twoR l).e = (unsignedL l 32).2.2) ∧ ((unsignedL l 32).2.2 = 0 → (twoR l).e = p.2.2) ∧ ((unsignedL l 32).2.2 = 0 → p.2.2 = 0 → twoR l = ⟨0, (unsignedL l 32).2.1 + p.2.1, (unsignedL l 32).1, p.1, 0, []⟩) := by
  subst hp
  unfold twoR
  refine ⟨fun h => by simp [h, failR], fun h => ?_, fun h h2 => by simp [h, h2]⟩
  by_cases h2 : (unsignedL (l.drop (unsignedL l 32).2.1) 32).2.2 = 0
  · simp [h, h2]
  · simp [h, h2, failR]
theorem tableR_q (l : List UInt8) (s : Nat × Nat × Nat) (hs : unsignedL (l.drop (labsR l).2.1) 32 = s) : ((labsR l).1 ≠ 0 → (tableR l).e = (labsR l).1) ∧ ((labsR l).1 = 0 → (tableR l).e = s.2.2) ∧ ((labsR l).1 = 0 → s.2.2 = 0 → tableR l = ⟨0, (labsR l).2.1 + s.2.1, s.1, 0, 0, (labsR l).2.2⟩) := by
  unfold tableR
  unfold labsR at hs ⊢
  by_cases h : (unsignedL l 32).2.2 = 0
  · by_cases h2 : 100 < (unsignedL l 32).1
    · simp [h, h2, failR]
    · by_cases h3 : (labelsL (unsignedL l 32).1 (l.drop (unsignedL l 32).2.1)).1 = 0
      · simp only [h, h2, h3, ne_eq, not_true_eq_false, if_false] at hs ⊢
        rw [← List.drop_drop] at hs
        rw [hs]
        refine ⟨fun x => x.elim, fun _ => ?_, fun _ h4 => by simp [h4]⟩
        by_cases h4 : s.2.2 = 0
        · simp [h4]
        · simp [h4, failR]
      · simp [h, h2, h3, failR]
  · simp [h, failR]
theorem constR_q (c : Nat) (l : List UInt8) (q : Int × Nat × Nat) (hq : signedL l (if c = 66 then 64 else 32) = q) : (q.2.2 ≠ 0 → (constR c l).e = q.2.2) ∧ (q.2.2 = 0 → constR c l = ⟨0, q.2.1, wordN (decide (c = 66)) q.1, 0, 0, []⟩) := by
  unfold constR
  rw [hq]
  constructor
  · intro h; simp [h, failR]
  · intro h; simp [h]
theorem blockR_q (l : List UInt8) : ((byteL l).2.2 ≠ 0 → (blockR l).e = (byteL l).2.2) ∧ ((byteL l).2.2 = 0 → blockedL ((byteL l).1 : Int) = false → (blockR l).e = 4) ∧ ((byteL l).2.2 = 0 → blockedL ((byteL l).1 : Int) = true → blockR l = ⟨0, 1, (byteL l).1, 0, 0, []⟩) := by
  unfold blockR blockedL
  refine ⟨fun h => by simp [h, failR], fun h h2 => ?_, fun h h2 => ?_⟩
  · have : ¬ ((byteL l).1 = 64 ∨ (byteL l).1 = 126 ∨ (byteL l).1 = 127) := by
      intro hx
      rw [decide_eq_false_iff_not] at h2
      exact h2 (by omega)
    simp only [h, ne_eq, not_true_eq_false, if_false]
    rw [if_neg this]
    rfl
  · have : (byteL l).1 = 64 ∨ (byteL l).1 = 126 ∨ (byteL l).1 = 127 := by
      rw [decide_eq_true_eq] at h2
      omega
    simp only [h, ne_eq, not_true_eq_false, if_false]
    rw [if_pos this]
theorem byteL_k (l : List UInt8) (h : (byteL l).2.2 = 0) : (byteL l).2.1 = 1 ∧ 1 ≤ l.length := by
  cases l with
  | nil => simp [byteL] at h
  | cons b r => simp [byteL]

theorem labsR_le : ∀ (n : Nat) (l : List UInt8), (labelsL n l).2.1 ≤ l.length := by
  intro n
  induction n with
  | zero => intro l; simp [labelsL]
  | succ n ih =>
    intro l
    rw [labelsL]
    have h1 := unsigned_cases l 32
    have h2 := ih (l.drop (unsignedL l 32).2.1)
    rw [List.length_drop] at h2
    split
    · simp
    · split
      · simp
      · simp only; omega
theorem labsR_le' (l : List UInt8) : (labsR l).2.1 ≤ l.length := by
  unfold labsR
  have h1 := unsigned_cases l 32
  have h2 := labsR_le (unsignedL l 32).1 (l.drop (unsignedL l 32).2.1)
  rw [List.length_drop] at h2
  split
  · simp
  · split
    · simp
    · split
      · simp
      · simp only; omega

set_option maxHeartbeats 3200000 in
theorem numbers_none (rb g f c xb : Nat) (A : Option Addr) (bs : List UInt8) (r fl fr tu at_ : Int) (code : Nat) (w : World) (h : Hid (RS w rb g f c A bs r fl fr tu at_ 0)) (hx : Hid (IV w xb (code : Int) 0 0 0 (.slice none 0 0))) (hxb : rb < xb)
    (hr1 : 0 ≤ r) (hr2 : r ≤ 880000) (hl : bs.length ≤ 1000) (h1 : 0 ≤ at_) (h2 : at_ ≤ tu) (h4 : tu ≤ (bs.length : Int)) (hcode : code ≤ 200000) (hk : refForm (code : Int) = 0) (hsome : (opRow (code : Int)).isSome = true) :
    Calls Tryz.prog 50 #[.pointer (some ⟨rb, 0, none⟩), .pointer (some ⟨xb, 0, none⟩)] w (FormStep w rb g f c xb A bs r fl fr tu at_ (code : Int) (⟨0, 0, 0, 0, 0, []⟩) 1300) := by
  have HF := hide (fun W => form_any (code : Int) 0 0 0 none 0 0 W (by omega) (by omega))
  rw [formV_ref hsome] at HF
  have hpl := part_len bs at_ (tu - at_) h1 (by omega) (by omega)
  obtain ⟨l, hll⟩ : ∃ l, partB bs at_ (tu - at_) = l := ⟨_, rfl⟩
  have HL := hide hll
  rw [hll] at hpl
  clear hll
  have hne : xb ∉ [f, g, rb] := by have := h.out.lt; have := h.out.cu.lt; simp; omega
  have HNE := hide hne; clear hne
  have hrbw := blk_lt h.out.blk
  have hxw := blk_lt hx.out
  have c0 := cell_blk hx.out 0
  have c1 := cell_blk hx.out 1
  have c2 := cell_blk hx.out 2
  have c3 := cell_blk hx.out 3
  have c4 := cell_blk hx.out 4
  simp at c0 c1 c2 c3 c4

  rw [hk] at HF
  clear hk hsome
  go_enter Tryz.func50, Tryz.ntmps50
  go_wp2_with fail
  refine (HF.out _).mono ?_; rintro e w1 ⟨rfl, hb1⟩
  have hRS1 := hide (h.out.below hb1.out hrbw)
  have hX1 : Hid (IV w1 xb (code : Int) 0 0 0 (.slice none 0 0)) := (hb1.out.block xb hxw).trans hx.out
  have hO1 : Hid (Only [f, g, rb, xb] w w1) := Only.of_below hb1.out
  clear c0 c1 c2 c3 c4
  go_wp2_with fail
  go_end0
  exact ⟨0, 0, 0, none, 0, [], r, at_, 0, rfl, hRS1, hX1, own_nil _ _ _ _, hO1, by omega, by omega, by omega, h2, by simp, Out.ok rfl ⟨by simp, rfl, rfl, rfl, rfl⟩⟩

set_option maxHeartbeats 3200000 in
theorem numbers_one (rb g f c xb : Nat) (A : Option Addr) (bs : List UInt8) (r fl fr tu at_ : Int) (code : Nat) (w : World) (h : Hid (RS w rb g f c A bs r fl fr tu at_ 0)) (hx : Hid (IV w xb (code : Int) 0 0 0 (.slice none 0 0))) (hxb : rb < xb)
    (hr1 : 0 ≤ r) (hr2 : r ≤ 880000) (hl : bs.length ≤ 1000) (h1 : 0 ≤ at_) (h2 : at_ ≤ tu) (h4 : tu ≤ (bs.length : Int)) (hcode : code ≤ 200000) (hk : refForm (code : Int) = 2 ∨ refForm (code : Int) = 4 ∨ refForm (code : Int) = 6 ∨ refForm (code : Int) = 7 ∨ refForm (code : Int) = 9) (hsome : (opRow (code : Int)).isSome = true) :
    Calls Tryz.prog 50 #[.pointer (some ⟨rb, 0, none⟩), .pointer (some ⟨xb, 0, none⟩)] w (FormStep w rb g f c xb A bs r fl fr tu at_ (code : Int) (oneR (partB bs at_ (tu - at_))) 1300) := by
  have HF := hide (fun W => form_any (code : Int) 0 0 0 none 0 0 W (by omega) (by omega))
  rw [formV_ref hsome] at HF
  have hpl := part_len bs at_ (tu - at_) h1 (by omega) (by omega)
  obtain ⟨l, hll⟩ : ∃ l, partB bs at_ (tu - at_) = l := ⟨_, rfl⟩
  have HL := hide hll
  rw [hll] at hpl ⊢
  clear hll
  have hne : xb ∉ [f, g, rb] := by have := h.out.lt; have := h.out.cu.lt; simp; omega
  have HNE := hide hne; clear hne
  have hrbw := blk_lt h.out.blk
  have hxw := blk_lt hx.out
  have c0 := cell_blk hx.out 0
  have c1 := cell_blk hx.out 1
  have c2 := cell_blk hx.out 2
  have c3 := cell_blk hx.out 3
  have c4 := cell_blk hx.out 4
  simp at c0 c1 c2 c3 c4

  rcases hk with hk | hk | hk | hk | hk
  · rw [hk] at HF
    clear hk hsome
    go_enter Tryz.func50, Tryz.ntmps50
    go_wp2_with fail
    refine (HF.out _).mono ?_; rintro e w1 ⟨rfl, hb1⟩
    have hRS1 := hide (h.out.below hb1.out hrbw)
    have hX1 : Hid (IV w1 xb (code : Int) 0 0 0 (.slice none 0 0)) := (hb1.out.block xb hxw).trans hx.out
    have hO1 : Hid (Only [f, g, rb, xb] w w1) := Only.of_below hb1.out
    clear c0 c1 c2 c3 c4
    have HN2 := hide (number_step rb g f c A bs r fl fr tu at_ 0 32 w1 hRS1 (by omega) (by omega) hl (by omega) (by omega) h4)
    rw [HL.out] at HN2
    go_wp2_with fail
    refine HN2.out.mono ?_; rintro en w2 ⟨v2, r2, at2, e2, rfl, n1, n2, n3, n4, n5, n6, n7, n8, n9⟩
    have hX2 := hide (hX1.out.keep n2.out HNE.out)
    have d1 := cell_blk hX2.out 1
    simp at d1
    have z1 := frozen_blk hX2.out 1
    go_wp2_with fail
    go_end0
    have o3 := iv_only w2 xb 1 (.int .u64 (v2 : Int))
    refine ⟨v2, 0, 0, none, 0, [], r2, at2, e2, rfl, n1.out.keep o3 (by simp <;> omega) (by have := h.out.lt; simp; omega) (by have := h.out.lt; have := h.out.cu.lt; simp; omega) (by have := h.out.lt; have := h.out.cu.lt; simp; omega), hX2.out.set.1 v2, own_nil _ _ _ _, (hO1.out.trans (n2.out.more (by simp))).trans (o3.more (by simp)), by omega, by omega, by omega, n6, by simp, ?_⟩
    refine n9.out.bind (fun x => (oneR_q l).1 x) (by omega) (fun _ => rfl) ?_
    rintro ⟨p1, p2⟩ p3 p4
    rw [p3, (oneR_q l).2 p4]
    exact Out.ok rfl ⟨p2, p1, rfl, rfl, rfl⟩
  · rw [hk] at HF
    clear hk hsome
    go_enter Tryz.func50, Tryz.ntmps50
    go_wp2_with fail
    refine (HF.out _).mono ?_; rintro e w1 ⟨rfl, hb1⟩
    have hRS1 := hide (h.out.below hb1.out hrbw)
    have hX1 : Hid (IV w1 xb (code : Int) 0 0 0 (.slice none 0 0)) := (hb1.out.block xb hxw).trans hx.out
    have hO1 : Hid (Only [f, g, rb, xb] w w1) := Only.of_below hb1.out
    clear c0 c1 c2 c3 c4
    have HN2 := hide (number_step rb g f c A bs r fl fr tu at_ 0 32 w1 hRS1 (by omega) (by omega) hl (by omega) (by omega) h4)
    rw [HL.out] at HN2
    go_wp2_with fail
    refine HN2.out.mono ?_; rintro en w2 ⟨v2, r2, at2, e2, rfl, n1, n2, n3, n4, n5, n6, n7, n8, n9⟩
    have hX2 := hide (hX1.out.keep n2.out HNE.out)
    have d1 := cell_blk hX2.out 1
    simp at d1
    have z1 := frozen_blk hX2.out 1
    go_wp2_with fail
    go_end0
    have o3 := iv_only w2 xb 1 (.int .u64 (v2 : Int))
    refine ⟨v2, 0, 0, none, 0, [], r2, at2, e2, rfl, n1.out.keep o3 (by simp <;> omega) (by have := h.out.lt; simp; omega) (by have := h.out.lt; have := h.out.cu.lt; simp; omega) (by have := h.out.lt; have := h.out.cu.lt; simp; omega), hX2.out.set.1 v2, own_nil _ _ _ _, (hO1.out.trans (n2.out.more (by simp))).trans (o3.more (by simp)), by omega, by omega, by omega, n6, by simp, ?_⟩
    refine n9.out.bind (fun x => (oneR_q l).1 x) (by omega) (fun _ => rfl) ?_
    rintro ⟨p1, p2⟩ p3 p4
    rw [p3, (oneR_q l).2 p4]
    exact Out.ok rfl ⟨p2, p1, rfl, rfl, rfl⟩
  · rw [hk] at HF
    clear hk hsome
    go_enter Tryz.func50, Tryz.ntmps50
    go_wp2_with fail
    refine (HF.out _).mono ?_; rintro e w1 ⟨rfl, hb1⟩
    have hRS1 := hide (h.out.below hb1.out hrbw)
    have hX1 : Hid (IV w1 xb (code : Int) 0 0 0 (.slice none 0 0)) := (hb1.out.block xb hxw).trans hx.out
    have hO1 : Hid (Only [f, g, rb, xb] w w1) := Only.of_below hb1.out
    clear c0 c1 c2 c3 c4
    have HN2 := hide (number_step rb g f c A bs r fl fr tu at_ 0 32 w1 hRS1 (by omega) (by omega) hl (by omega) (by omega) h4)
    rw [HL.out] at HN2
    go_wp2_with fail
    refine HN2.out.mono ?_; rintro en w2 ⟨v2, r2, at2, e2, rfl, n1, n2, n3, n4, n5, n6, n7, n8, n9⟩
    have hX2 := hide (hX1.out.keep n2.out HNE.out)
    have d1 := cell_blk hX2.out 1
    simp at d1
    have z1 := frozen_blk hX2.out 1
    go_wp2_with fail
    go_end0
    have o3 := iv_only w2 xb 1 (.int .u64 (v2 : Int))
    refine ⟨v2, 0, 0, none, 0, [], r2, at2, e2, rfl, n1.out.keep o3 (by simp <;> omega) (by have := h.out.lt; simp; omega) (by have := h.out.lt; have := h.out.cu.lt; simp; omega) (by have := h.out.lt; have := h.out.cu.lt; simp; omega), hX2.out.set.1 v2, own_nil _ _ _ _, (hO1.out.trans (n2.out.more (by simp))).trans (o3.more (by simp)), by omega, by omega, by omega, n6, by simp, ?_⟩
    refine n9.out.bind (fun x => (oneR_q l).1 x) (by omega) (fun _ => rfl) ?_
    rintro ⟨p1, p2⟩ p3 p4
    rw [p3, (oneR_q l).2 p4]
    exact Out.ok rfl ⟨p2, p1, rfl, rfl, rfl⟩
  · rw [hk] at HF
    clear hk hsome
    go_enter Tryz.func50, Tryz.ntmps50
    go_wp2_with fail
    refine (HF.out _).mono ?_; rintro e w1 ⟨rfl, hb1⟩
    have hRS1 := hide (h.out.below hb1.out hrbw)
    have hX1 : Hid (IV w1 xb (code : Int) 0 0 0 (.slice none 0 0)) := (hb1.out.block xb hxw).trans hx.out
    have hO1 : Hid (Only [f, g, rb, xb] w w1) := Only.of_below hb1.out
    clear c0 c1 c2 c3 c4
    have HN2 := hide (number_step rb g f c A bs r fl fr tu at_ 0 32 w1 hRS1 (by omega) (by omega) hl (by omega) (by omega) h4)
    rw [HL.out] at HN2
    go_wp2_with fail
    refine HN2.out.mono ?_; rintro en w2 ⟨v2, r2, at2, e2, rfl, n1, n2, n3, n4, n5, n6, n7, n8, n9⟩
    have hX2 := hide (hX1.out.keep n2.out HNE.out)
    have d1 := cell_blk hX2.out 1
    simp at d1
    have z1 := frozen_blk hX2.out 1
    go_wp2_with fail
    go_end0
    have o3 := iv_only w2 xb 1 (.int .u64 (v2 : Int))
    refine ⟨v2, 0, 0, none, 0, [], r2, at2, e2, rfl, n1.out.keep o3 (by simp <;> omega) (by have := h.out.lt; simp; omega) (by have := h.out.lt; have := h.out.cu.lt; simp; omega) (by have := h.out.lt; have := h.out.cu.lt; simp; omega), hX2.out.set.1 v2, own_nil _ _ _ _, (hO1.out.trans (n2.out.more (by simp))).trans (o3.more (by simp)), by omega, by omega, by omega, n6, by simp, ?_⟩
    refine n9.out.bind (fun x => (oneR_q l).1 x) (by omega) (fun _ => rfl) ?_
    rintro ⟨p1, p2⟩ p3 p4
    rw [p3, (oneR_q l).2 p4]
    exact Out.ok rfl ⟨p2, p1, rfl, rfl, rfl⟩
  · rw [hk] at HF
    clear hk hsome
    go_enter Tryz.func50, Tryz.ntmps50
    go_wp2_with fail
    refine (HF.out _).mono ?_; rintro e w1 ⟨rfl, hb1⟩
    have hRS1 := hide (h.out.below hb1.out hrbw)
    have hX1 : Hid (IV w1 xb (code : Int) 0 0 0 (.slice none 0 0)) := (hb1.out.block xb hxw).trans hx.out
    have hO1 : Hid (Only [f, g, rb, xb] w w1) := Only.of_below hb1.out
    clear c0 c1 c2 c3 c4
    have HN2 := hide (number_step rb g f c A bs r fl fr tu at_ 0 32 w1 hRS1 (by omega) (by omega) hl (by omega) (by omega) h4)
    rw [HL.out] at HN2
    go_wp2_with fail
    refine HN2.out.mono ?_; rintro en w2 ⟨v2, r2, at2, e2, rfl, n1, n2, n3, n4, n5, n6, n7, n8, n9⟩
    have hX2 := hide (hX1.out.keep n2.out HNE.out)
    have d1 := cell_blk hX2.out 1
    simp at d1
    have z1 := frozen_blk hX2.out 1
    go_wp2_with fail
    go_end0
    have o3 := iv_only w2 xb 1 (.int .u64 (v2 : Int))
    refine ⟨v2, 0, 0, none, 0, [], r2, at2, e2, rfl, n1.out.keep o3 (by simp <;> omega) (by have := h.out.lt; simp; omega) (by have := h.out.lt; have := h.out.cu.lt; simp; omega) (by have := h.out.lt; have := h.out.cu.lt; simp; omega), hX2.out.set.1 v2, own_nil _ _ _ _, (hO1.out.trans (n2.out.more (by simp))).trans (o3.more (by simp)), by omega, by omega, by omega, n6, by simp, ?_⟩
    refine n9.out.bind (fun x => (oneR_q l).1 x) (by omega) (fun _ => rfl) ?_
    rintro ⟨p1, p2⟩ p3 p4
    rw [p3, (oneR_q l).2 p4]
    exact Out.ok rfl ⟨p2, p1, rfl, rfl, rfl⟩

set_option maxHeartbeats 3200000 in
theorem numbers_block (rb g f c xb : Nat) (A : Option Addr) (bs : List UInt8) (r fl fr tu at_ : Int) (code : Nat) (w : World) (h : Hid (RS w rb g f c A bs r fl fr tu at_ 0)) (hx : Hid (IV w xb (code : Int) 0 0 0 (.slice none 0 0))) (hxb : rb < xb)
    (hr1 : 0 ≤ r) (hr2 : r ≤ 880000) (hl : bs.length ≤ 1000) (h1 : 0 ≤ at_) (h2 : at_ ≤ tu) (h4 : tu ≤ (bs.length : Int)) (hcode : code ≤ 200000) (hk : refForm (code : Int) = 1) (hsome : (opRow (code : Int)).isSome = true) :
    Calls Tryz.prog 50 #[.pointer (some ⟨rb, 0, none⟩), .pointer (some ⟨xb, 0, none⟩)] w (FormStep w rb g f c xb A bs r fl fr tu at_ (code : Int) (blockR (partB bs at_ (tu - at_))) 1300) := by
  have HF := hide (fun W => form_any (code : Int) 0 0 0 none 0 0 W (by omega) (by omega))
  rw [formV_ref hsome] at HF
  have hpl := part_len bs at_ (tu - at_) h1 (by omega) (by omega)
  obtain ⟨l, hll⟩ : ∃ l, partB bs at_ (tu - at_) = l := ⟨_, rfl⟩
  have HL := hide hll
  rw [hll] at hpl ⊢
  clear hll
  have hne : xb ∉ [f, g, rb] := by have := h.out.lt; have := h.out.cu.lt; simp; omega
  have HNE := hide hne; clear hne
  have hrbw := blk_lt h.out.blk
  have hxw := blk_lt hx.out
  have c0 := cell_blk hx.out 0
  have c1 := cell_blk hx.out 1
  have c2 := cell_blk hx.out 2
  have c3 := cell_blk hx.out 3
  have c4 := cell_blk hx.out 4
  simp at c0 c1 c2 c3 c4

  rw [hk] at HF
  clear hk hsome
  go_enter Tryz.func50, Tryz.ntmps50
  go_wp2_with fail
  refine (HF.out _).mono ?_; rintro e w1 ⟨rfl, hb1⟩
  have hRS1 := hide (h.out.below hb1.out hrbw)
  have hX1 : Hid (IV w1 xb (code : Int) 0 0 0 (.slice none 0 0)) := (hb1.out.block xb hxw).trans hx.out
  have hO1 : Hid (Only [f, g, rb, xb] w w1) := Only.of_below hb1.out
  clear c0 c1 c2 c3 c4
  have HN2 := hide (byte_step rb g f c A bs r fl fr tu at_ 0 w1 hRS1 hr1 (by omega) hl h1 h2 h4)
  rw [HL.out] at HN2
  have hbl := byteL_lt l
  go_wp2_with fail
  refine HN2.out.mono ?_; rintro en w2 ⟨v2, r2, at2, e2, rfl, n1, n2, n3, n4, n5, n6, n7, n8, n9⟩
  have hv2 := step_bd n9.out n7.out hbl
  have hX2 := hide (hX1.out.keep n2.out HNE.out)
  have d1 := cell_blk hX2.out 1
  simp at d1
  have z1 := frozen_blk hX2.out 1
  have hX3 := hide (hX2.out.set.1 v2)
  have o3 := iv_only w2 xb 1 (.int .u64 (v2 : Int))
  have hRS3 := hide (n1.out.keep o3 (by simp <;> omega) (by have := h.out.lt; simp; omega) (by have := h.out.lt; have := h.out.cu.lt; simp; omega) (by have := h.out.lt; have := h.out.cu.lt; simp; omega))
  generalize hw3 : w2.setCell ⟨xb, 1, none⟩ (.int .u64 (v2 : Int)) = w3 at hX3 hRS3 o3
  have HW3 := hide hw3; clear hw3
  have hO3 : Hid (Only [f, g, rb, xb] w w3) := (hO1.out.trans (n2.out.more (by simp))).trans (o3.more (by simp))
  clear o3
  have d1' := cell_blk hX3.out 1
  simp at d1'
  have HBK := hide (fun W => blocked_any (v2 : Int) W)
  obtain ⟨q, hq⟩ : ∃ q, blockedL (v2 : Int) = q := ⟨_, rfl⟩
  rw [hq] at HBK
  have HQ := hide hq; clear hq
  have HF4 := hide (fail_step rb g f c A bs r2 fl fr tu at2 e2 4 (!q) w3 hRS3)
  go_upto_region 3 with fail
  rw [HW3.out]
  go_wp2_with fail
  refine (HBK.out _).mono ?_; rintro e w4 ⟨rfl, rfl⟩
  go_wp2_with fail
  refine HF4.out.mono ?_; rintro en w5 ⟨rfl, m1, m2⟩
  go_wp2_with fail
  go_end0
  have hX5 := hX3.out.keep m2.out (by have := HNE.out; simp at this ⊢; omega)
  refine ⟨v2, 0, 0, none, 0, [], r2, at2, _, rfl, m1, hX5, own_nil _ _ _ _, hO3.out.trans (m2.out.more (by simp)), by omega, by omega, by omega, n6, by simp, ?_⟩
  refine n9.out.bind (fun x => (blockR_q l).1 x) (by omega) (fun x => failE_held _ _ _ x) ?_
  rintro ⟨p1, p2⟩ p3 p4
  subst p3
  cases hqq : q with
  | true =>
    have hb := HQ.out
    rw [hqq, p1] at hb
    rw [(blockR_q l).2.2 p4 hb]
    exact Out.ok rfl ⟨by have := byteL_k l p4; simp only; omega, p1, rfl, rfl, rfl⟩
  | false =>
    have hb := HQ.out
    rw [hqq, p1] at hb
    have hE := (blockR_q l).2.1 p4 hb
    exact Out.err (by omega) (by rw [hE]; rfl)

set_option maxHeartbeats 3200000 in
theorem numbers_two (rb g f c xb : Nat) (A : Option Addr) (bs : List UInt8) (r fl fr tu at_ : Int) (code : Nat) (w : World) (h : Hid (RS w rb g f c A bs r fl fr tu at_ 0)) (hx : Hid (IV w xb (code : Int) 0 0 0 (.slice none 0 0))) (hxb : rb < xb)
    (hr1 : 0 ≤ r) (hr2 : r ≤ 880000) (hl : bs.length ≤ 1000) (h1 : 0 ≤ at_) (h2 : at_ ≤ tu) (h4 : tu ≤ (bs.length : Int)) (hcode : code ≤ 200000) (hk : refForm (code : Int) = 5 ∨ refForm (code : Int) = 10) (hsome : (opRow (code : Int)).isSome = true) :
    Calls Tryz.prog 50 #[.pointer (some ⟨rb, 0, none⟩), .pointer (some ⟨xb, 0, none⟩)] w (FormStep w rb g f c xb A bs r fl fr tu at_ (code : Int) (twoR (partB bs at_ (tu - at_))) 1300) := by
  have HF := hide (fun W => form_any (code : Int) 0 0 0 none 0 0 W (by omega) (by omega))
  rw [formV_ref hsome] at HF
  have hpl := part_len bs at_ (tu - at_) h1 (by omega) (by omega)
  obtain ⟨l, hll⟩ : ∃ l, partB bs at_ (tu - at_) = l := ⟨_, rfl⟩
  have HL := hide hll
  rw [hll] at hpl ⊢
  clear hll
  have hne : xb ∉ [f, g, rb] := by have := h.out.lt; have := h.out.cu.lt; simp; omega
  have HNE := hide hne; clear hne
  have hrbw := blk_lt h.out.blk
  have hxw := blk_lt hx.out
  have c0 := cell_blk hx.out 0
  have c1 := cell_blk hx.out 1
  have c2 := cell_blk hx.out 2
  have c3 := cell_blk hx.out 3
  have c4 := cell_blk hx.out 4
  simp at c0 c1 c2 c3 c4

  rcases hk with hk | hk
  · rw [hk] at HF
    clear hk hsome
    go_enter Tryz.func50, Tryz.ntmps50
    go_wp2_with fail
    refine (HF.out _).mono ?_; rintro e w1 ⟨rfl, hb1⟩
    have hRS1 := hide (h.out.below hb1.out hrbw)
    have hX1 : Hid (IV w1 xb (code : Int) 0 0 0 (.slice none 0 0)) := (hb1.out.block xb hxw).trans hx.out
    have hO1 : Hid (Only [f, g, rb, xb] w w1) := Only.of_below hb1.out
    clear c0 c1 c2 c3 c4
    have HN2 := hide (number_step rb g f c A bs r fl fr tu at_ 0 32 w1 hRS1 (by omega) (by omega) hl (by omega) (by omega) h4)
    rw [HL.out] at HN2
    go_wp2_with fail
    refine HN2.out.mono ?_; rintro en w2 ⟨v2, r2, at2, e2, rfl, n1, n2, n3, n4, n5, n6, n7, n8, n9⟩
    have hX2 := hide (hX1.out.keep n2.out HNE.out)
    have d1 := cell_blk hX2.out 1
    simp at d1
    have z1 := frozen_blk hX2.out 1
    have hX3 := hide (hX2.out.set.1 v2)
    have o3 := iv_only w2 xb 1 (.int .u64 (v2 : Int))
    have hRS3 := hide (n1.out.keep o3 (by simp <;> omega) (by have := h.out.lt; simp; omega) (by have := h.out.lt; have := h.out.cu.lt; simp; omega) (by have := h.out.lt; have := h.out.cu.lt; simp; omega))
    generalize hw3 : w2.setCell ⟨xb, 1, none⟩ (.int .u64 (v2 : Int)) = w3 at hX3 hRS3 o3
    have HW3 := hide hw3; clear hw3
    have hO3 : Hid (Only [f, g, rb, xb] w w3) := (hO1.out.trans (n2.out.more (by simp))).trans (o3.more (by simp))
    clear o3
    have HN4 := hide (number_step rb g f c A bs r2 fl fr tu at2 e2 32 w3 hRS3 (by omega) (by omega) hl (by omega) (by omega) h4)
    go_wp2_with fail
    rw [HW3.out]
    refine HN4.out.mono ?_; rintro en w4 ⟨v4, r4, at4, e4, rfl, j1, j2, j3, j4, j5, j6, j7, j8, j9⟩
    have hX4 := hide (hX3.out.keep j2.out HNE.out)
    have d2 := cell_blk hX4.out 2
    simp at d2
    have z2 := frozen_blk hX4.out 2
    go_wp2_with fail
    go_end0
    have o5 := iv_only w4 xb 2 (.int .u64 (v4 : Int))
    refine ⟨v2, v4, 0, none, 0, [], r4, at4, e4, rfl, j1.out.keep o5 (by simp <;> omega) (by have := h.out.lt; simp; omega) (by have := h.out.lt; have := h.out.cu.lt; simp; omega) (by have := h.out.lt; have := h.out.cu.lt; simp; omega), hX4.out.set.2.1 v4, own_nil _ _ _ _, (hO3.out.trans (j2.out.more (by simp))).trans (o5.more (by simp)), by omega, by omega, by omega, j6, by simp, ?_⟩
    obtain ⟨q1, q2, q3⟩ := twoR_q l _ rfl
    refine n9.out.bind (fun x => q1 x) (by omega) (fun x => j9.out.held x) ?_
    rintro ⟨p1, p2⟩ p3 p4
    have hcs := unsigned_cases l 32
    have hp : partB bs at2 (tu - at2) = l.drop (unsignedL l 32).2.1 := by rw [p2, partB_drop bs at_ tu _ h1 (by omega), HL.out]
    have j9' := j9.out
    rw [hp, p3] at j9'
    refine j9'.bind (fun x => q2 p4) (by omega) (fun _ => rfl) ?_
    rintro ⟨s1, s2⟩ s3 s4
    rw [s3, q3 p4 s4]
    exact Out.ok rfl ⟨by simp only; omega, p1, s1, rfl, rfl⟩
  · rw [hk] at HF
    clear hk hsome
    go_enter Tryz.func50, Tryz.ntmps50
    go_wp2_with fail
    refine (HF.out _).mono ?_; rintro e w1 ⟨rfl, hb1⟩
    have hRS1 := hide (h.out.below hb1.out hrbw)
    have hX1 : Hid (IV w1 xb (code : Int) 0 0 0 (.slice none 0 0)) := (hb1.out.block xb hxw).trans hx.out
    have hO1 : Hid (Only [f, g, rb, xb] w w1) := Only.of_below hb1.out
    clear c0 c1 c2 c3 c4
    have HN2 := hide (number_step rb g f c A bs r fl fr tu at_ 0 32 w1 hRS1 (by omega) (by omega) hl (by omega) (by omega) h4)
    rw [HL.out] at HN2
    go_wp2_with fail
    refine HN2.out.mono ?_; rintro en w2 ⟨v2, r2, at2, e2, rfl, n1, n2, n3, n4, n5, n6, n7, n8, n9⟩
    have hX2 := hide (hX1.out.keep n2.out HNE.out)
    have d1 := cell_blk hX2.out 1
    simp at d1
    have z1 := frozen_blk hX2.out 1
    have hX3 := hide (hX2.out.set.1 v2)
    have o3 := iv_only w2 xb 1 (.int .u64 (v2 : Int))
    have hRS3 := hide (n1.out.keep o3 (by simp <;> omega) (by have := h.out.lt; simp; omega) (by have := h.out.lt; have := h.out.cu.lt; simp; omega) (by have := h.out.lt; have := h.out.cu.lt; simp; omega))
    generalize hw3 : w2.setCell ⟨xb, 1, none⟩ (.int .u64 (v2 : Int)) = w3 at hX3 hRS3 o3
    have HW3 := hide hw3; clear hw3
    have hO3 : Hid (Only [f, g, rb, xb] w w3) := (hO1.out.trans (n2.out.more (by simp))).trans (o3.more (by simp))
    clear o3
    have HN4 := hide (number_step rb g f c A bs r2 fl fr tu at2 e2 32 w3 hRS3 (by omega) (by omega) hl (by omega) (by omega) h4)
    go_wp2_with fail
    rw [HW3.out]
    refine HN4.out.mono ?_; rintro en w4 ⟨v4, r4, at4, e4, rfl, j1, j2, j3, j4, j5, j6, j7, j8, j9⟩
    have hX4 := hide (hX3.out.keep j2.out HNE.out)
    have d2 := cell_blk hX4.out 2
    simp at d2
    have z2 := frozen_blk hX4.out 2
    go_wp2_with fail
    go_end0
    have o5 := iv_only w4 xb 2 (.int .u64 (v4 : Int))
    refine ⟨v2, v4, 0, none, 0, [], r4, at4, e4, rfl, j1.out.keep o5 (by simp <;> omega) (by have := h.out.lt; simp; omega) (by have := h.out.lt; have := h.out.cu.lt; simp; omega) (by have := h.out.lt; have := h.out.cu.lt; simp; omega), hX4.out.set.2.1 v4, own_nil _ _ _ _, (hO3.out.trans (j2.out.more (by simp))).trans (o5.more (by simp)), by omega, by omega, by omega, j6, by simp, ?_⟩
    obtain ⟨q1, q2, q3⟩ := twoR_q l _ rfl
    refine n9.out.bind (fun x => q1 x) (by omega) (fun x => j9.out.held x) ?_
    rintro ⟨p1, p2⟩ p3 p4
    have hcs := unsigned_cases l 32
    have hp : partB bs at2 (tu - at2) = l.drop (unsignedL l 32).2.1 := by rw [p2, partB_drop bs at_ tu _ h1 (by omega), HL.out]
    have j9' := j9.out
    rw [hp, p3] at j9'
    refine j9'.bind (fun x => q2 p4) (by omega) (fun _ => rfl) ?_
    rintro ⟨s1, s2⟩ s3 s4
    rw [s3, q3 p4 s4]
    exact Out.ok rfl ⟨by simp only; omega, p1, s1, rfl, rfl⟩

set_option maxHeartbeats 3200000 in
theorem numbers_table (rb g f c xb : Nat) (A : Option Addr) (bs : List UInt8) (r fl fr tu at_ : Int) (code : Nat) (w : World) (h : Hid (RS w rb g f c A bs r fl fr tu at_ 0)) (hx : Hid (IV w xb (code : Int) 0 0 0 (.slice none 0 0))) (hxb : rb < xb)
    (hr1 : 0 ≤ r) (hr2 : r ≤ 880000) (hl : bs.length ≤ 1000) (h1 : 0 ≤ at_) (h2 : at_ ≤ tu) (h4 : tu ≤ (bs.length : Int)) (hcode : code ≤ 200000) (hk : refForm (code : Int) = 3) (hsome : (opRow (code : Int)).isSome = true) :
    Calls Tryz.prog 50 #[.pointer (some ⟨rb, 0, none⟩), .pointer (some ⟨xb, 0, none⟩)] w (FormStep w rb g f c xb A bs r fl fr tu at_ (code : Int) (tableR (partB bs at_ (tu - at_))) 1300) := by
  have HF := hide (fun W => form_any (code : Int) 0 0 0 none 0 0 W (by omega) (by omega))
  rw [formV_ref hsome] at HF
  have hpl := part_len bs at_ (tu - at_) h1 (by omega) (by omega)
  obtain ⟨l, hll⟩ : ∃ l, partB bs at_ (tu - at_) = l := ⟨_, rfl⟩
  have HL := hide hll
  rw [hll] at hpl ⊢
  clear hll
  have hne : xb ∉ [f, g, rb] := by have := h.out.lt; have := h.out.cu.lt; simp; omega
  have HNE := hide hne; clear hne
  have hrbw := blk_lt h.out.blk
  have hxw := blk_lt hx.out
  have c0 := cell_blk hx.out 0
  have c1 := cell_blk hx.out 1
  have c2 := cell_blk hx.out 2
  have c3 := cell_blk hx.out 3
  have c4 := cell_blk hx.out 4
  simp at c0 c1 c2 c3 c4

  rw [hk] at HF
  clear hk hsome
  go_enter Tryz.func50, Tryz.ntmps50
  go_wp2_with fail
  refine (HF.out _).mono ?_; rintro e w1 ⟨rfl, hb1⟩
  have hRS1 := hide (h.out.below hb1.out hrbw)
  have hX1 : Hid (IV w1 xb (code : Int) 0 0 0 (.slice none 0 0)) := (hb1.out.block xb hxw).trans hx.out
  have hO1 : Hid (Only [f, g, rb, xb] w w1) := Only.of_below hb1.out
  clear c0 c1 c2 c3 c4
  have HN2 := hide (labels_step rb g f c A bs r fl fr tu at_ w1 hRS1 hr1 (by omega) hl h1 h2 h4)
  rw [HL.out] at HN2
  go_wp2_with fail
  refine HN2.out.mono ?_; rintro en w2 ⟨Al, cl, xs, r2, at2, e2, rfl, n0, n1, n2, n3, n4, n5, n6, n7, n9⟩
  have hX2 := hide (hX1.out.keep n2.out HNE.out)
  have d4 := cell_blk hX2.out 4
  simp at d4
  have z4 := frozen_blk hX2.out 4
  have hX3 := hide (hX2.out.set.2.2.2 (.slice Al xs.length cl))
  have o3 := iv_only w2 xb 4 (.slice Al xs.length cl)
  have hRS3 := hide (n1.out.keep o3 (by simp <;> omega) (by have := h.out.lt; simp; omega) (by have := h.out.lt; have := h.out.cu.lt; simp; omega) (by have := h.out.lt; have := h.out.cu.lt; simp; omega))
  have hown3 : Hid ((w2.setCell ⟨xb, 4, none⟩ (.slice Al xs.length cl)).ownsRow w.heap.size 22 1 (.slice Al xs.length cl) xs.length (xs.map U)) := own_base (own_only3 n0.out o3 (fun q hq => by have := own_ge n0.out q hq; have := hb1.out.size; simp; omega)) (fun q hq => by have := own_ge n0.out q hq; have := hb1.out.size; omega)
  generalize hw3 : w2.setCell ⟨xb, 4, none⟩ (.slice Al xs.length cl) = w3 at hX3 hRS3 o3 hown3
  have HW3 := hide hw3; clear hw3
  have hO3 : Hid (Only [f, g, rb, xb] w w3) := (hO1.out.trans (n2.out.more (by simp))).trans (o3.more (by simp))
  clear o3
  have HN4 := hide (number_step rb g f c A bs r2 fl fr tu at2 e2 32 w3 hRS3 (by omega) (by omega) hl (by omega) (by omega) h4)
  go_wp2_with fail
  rw [HW3.out]
  refine HN4.out.mono ?_; rintro en w4 ⟨v4, r4, at4, e4, rfl, j1, j2, j3, j4, j5, j6, j7, j8, j9⟩
  have hX4 := hide (hX3.out.keep j2.out HNE.out)
  have d1 := cell_blk hX4.out 1
  simp at d1
  have z1 := frozen_blk hX4.out 1
  have hown4 := hide (own_only3 hown3.out j2.out (fun q hq => by have := own_ge hown3.out q hq; have := h.out.lt; have := h.out.cu.lt; simp; omega))
  go_wp2_with fail
  go_end0
  have o5 := iv_only w4 xb 1 (.int .u64 (v4 : Int))
  refine ⟨v4, 0, 0, Al, cl, xs, r4, at4, e4, rfl, j1.out.keep o5 (by simp <;> omega) (by have := h.out.lt; simp; omega) (by have := h.out.lt; have := h.out.cu.lt; simp; omega) (by have := h.out.lt; have := h.out.cu.lt; simp; omega), hX4.out.set.1 v4, own_only3 hown4.out o5 (fun q hq => by have := own_ge hown4.out q hq; simp; omega), (hO3.out.trans (j2.out.more (by simp))).trans (o5.more (by simp)), by omega, by omega, by omega, j6, n7, ?_⟩
  obtain ⟨q1, q2, q3⟩ := tableR_q l _ rfl
  refine n9.out.bind (fun x => q1 x) (by omega) (fun x => j9.out.held x) ?_
  rintro ⟨p1, p2⟩ p3 p4
  have hle := labsR_le' l
  have hp : partB bs at2 (tu - at2) = l.drop (labsR l).2.1 := by rw [p1, partB_drop bs at_ tu _ h1 (by omega), HL.out]
  have j9' := j9.out
  rw [hp, p3] at j9'
  refine j9'.bind (fun x => q2 p4) (by omega) (fun _ => rfl) ?_
  rintro ⟨s1, s2⟩ s3 s4
  rw [s3, q3 p4 s4]
  exact Out.ok rfl ⟨by simp only; omega, s1, rfl, rfl, p2⟩

set_option maxHeartbeats 3200000 in
theorem numbers_mem (rb g f c xb : Nat) (A : Option Addr) (bs : List UInt8) (r fl fr tu at_ : Int) (code : Nat) (w : World) (h : Hid (RS w rb g f c A bs r fl fr tu at_ 0)) (hx : Hid (IV w xb (code : Int) 0 0 0 (.slice none 0 0))) (hxb : rb < xb)
    (hr1 : 0 ≤ r) (hr2 : r ≤ 880000) (hl : bs.length ≤ 1000) (h1 : 0 ≤ at_) (h2 : at_ ≤ tu) (h4 : tu ≤ (bs.length : Int)) (hcode : code ≤ 200000) (hk : refForm (code : Int) = 8) (hsome : (opRow (code : Int)).isSome = true) :
    Calls Tryz.prog 50 #[.pointer (some ⟨rb, 0, none⟩), .pointer (some ⟨xb, 0, none⟩)] w (FormStep w rb g f c xb A bs r fl fr tu at_ (code : Int) (memR (partB bs at_ (tu - at_))) 1300) := by
  have HF := hide (fun W => form_any (code : Int) 0 0 0 none 0 0 W (by omega) (by omega))
  rw [formV_ref hsome] at HF
  have hpl := part_len bs at_ (tu - at_) h1 (by omega) (by omega)
  obtain ⟨l, hll⟩ : ∃ l, partB bs at_ (tu - at_) = l := ⟨_, rfl⟩
  have HL := hide hll
  rw [hll] at hpl ⊢
  clear hll
  have hne : xb ∉ [f, g, rb] := by have := h.out.lt; have := h.out.cu.lt; simp; omega
  have HNE := hide hne; clear hne
  have hrbw := blk_lt h.out.blk
  have hxw := blk_lt hx.out
  have c0 := cell_blk hx.out 0
  have c1 := cell_blk hx.out 1
  have c2 := cell_blk hx.out 2
  have c3 := cell_blk hx.out 3
  have c4 := cell_blk hx.out 4
  simp at c0 c1 c2 c3 c4

  rw [hk] at HF
  clear hk hsome
  go_enter Tryz.func50, Tryz.ntmps50
  go_wp2_with fail
  refine (HF.out _).mono ?_; rintro e w1 ⟨rfl, hb1⟩
  have hRS1 := hide (h.out.below hb1.out hrbw)
  have hX1 : Hid (IV w1 xb (code : Int) 0 0 0 (.slice none 0 0)) := (hb1.out.block xb hxw).trans hx.out
  have hO1 : Hid (Only [f, g, rb, xb] w w1) := Only.of_below hb1.out
  clear c0 c1 c2 c3 c4
  have HN2 := hide (mem_step rb g f c xb A bs r fl fr tu at_ (code : Int) w1 hRS1 hX1 hxb hr1 (by omega) hl h1 h2 h4)
  rw [HL.out] at HN2
  go_wp2_with fail
  refine HN2.out.mono ?_; rintro en w2 ⟨a, b, al, Al, cl, xs, r2, at2, e2, rfl, n1, n2, n3, n4, n5, n6, n7, n8, n9, n10⟩
  go_wp2_with fail
  go_end0
  have hs1 := hb1.out.size
  exact ⟨a, b, al, Al, cl, xs, r2, at2, e2, rfl, n1, n2, own_base n3.out (fun q hq => by have := own_ge n3.out q hq; omega), hO1.out.trans n4.out, n5, by omega, n7, n8, n9, n10⟩

set_option maxHeartbeats 3200000 in
theorem numbers_const (rb g f c xb : Nat) (A : Option Addr) (bs : List UInt8) (r fl fr tu at_ : Int) (code : Nat) (w : World) (h : Hid (RS w rb g f c A bs r fl fr tu at_ 0)) (hx : Hid (IV w xb (code : Int) 0 0 0 (.slice none 0 0))) (hxb : rb < xb)
    (hr1 : 0 ≤ r) (hr2 : r ≤ 880000) (hl : bs.length ≤ 1000) (h1 : 0 ≤ at_) (h2 : at_ ≤ tu) (h4 : tu ≤ (bs.length : Int)) (hcode : code ≤ 200000) (hk : refForm (code : Int) = 11) (hsome : (opRow (code : Int)).isSome = true) :
    Calls Tryz.prog 50 #[.pointer (some ⟨rb, 0, none⟩), .pointer (some ⟨xb, 0, none⟩)] w (FormStep w rb g f c xb A bs r fl fr tu at_ (code : Int) (constR code (partB bs at_ (tu - at_))) 1300) := by
  have HF := hide (fun W => form_any (code : Int) 0 0 0 none 0 0 W (by omega) (by omega))
  rw [formV_ref hsome] at HF
  have hpl := part_len bs at_ (tu - at_) h1 (by omega) (by omega)
  obtain ⟨l, hll⟩ : ∃ l, partB bs at_ (tu - at_) = l := ⟨_, rfl⟩
  have HL := hide hll
  rw [hll] at hpl ⊢
  clear hll
  have hne : xb ∉ [f, g, rb] := by have := h.out.lt; have := h.out.cu.lt; simp; omega
  have HNE := hide hne; clear hne
  have hrbw := blk_lt h.out.blk
  have hxw := blk_lt hx.out
  have c0 := cell_blk hx.out 0
  have c1 := cell_blk hx.out 1
  have c2 := cell_blk hx.out 2
  have c3 := cell_blk hx.out 3
  have c4 := cell_blk hx.out 4
  simp at c0 c1 c2 c3 c4

  rw [hk] at HF
  clear hk hsome
  go_enter Tryz.func50, Tryz.ntmps50
  go_wp2_with fail
  refine (HF.out _).mono ?_; rintro e w1 ⟨rfl, hb1⟩
  have hRS1 := hide (h.out.below hb1.out hrbw)
  have hX1 : Hid (IV w1 xb (code : Int) 0 0 0 (.slice none 0 0)) := (hb1.out.block xb hxw).trans hx.out
  have hO1 : Hid (Only [f, g, rb, xb] w w1) := Only.of_below hb1.out
  clear c0 c1 c2 c3 c4
  obtain ⟨q, hq⟩ : ∃ q, signedL l (if code = 66 then 64 else 32) = q := ⟨_, rfl⟩
  have HN2 := hide (word_step rb g f c A bs r fl fr tu at_ code w1 hRS1 hr1 (by omega) hl h1 h2 h4 q (by show _ = _; rw [HL.out]; exact hq))
  have HQ := hide hq; clear hq
  have d0 := cell_blk hX1.out 0
  simp at d0
  go_wp2_with fail
  refine HN2.out.mono ?_; rintro en w2 ⟨v2, r2, at2, e2, rfl, n1, n2, n3, n4, n5, n6, n7, n8, n9⟩
  have hX2 := hide (hX1.out.keep n2.out HNE.out)
  have d1 := cell_blk hX2.out 1
  simp at d1
  have z1 := frozen_blk hX2.out 1
  go_wp2_with fail
  go_end0
  have o3 := iv_only w2 xb 1 (.int .u64 (v2 : Int))
  refine ⟨v2, 0, 0, none, 0, [], r2, at2, e2, rfl, n1.out.keep o3 (by simp <;> omega) (by have := h.out.lt; simp; omega) (by have := h.out.lt; have := h.out.cu.lt; simp; omega) (by have := h.out.lt; have := h.out.cu.lt; simp; omega), hX2.out.set.1 v2, own_nil _ _ _ _, (hO1.out.trans (n2.out.more (by simp))).trans (o3.more (by simp)), by omega, by omega, by omega, n6, by simp, ?_⟩
  obtain ⟨q1, q2⟩ := constR_q code l q HQ.out
  refine n9.out.bind (fun x => q1 x) (by omega) (fun _ => rfl) ?_
  rintro ⟨p1, p2⟩ p3 p4
  rw [p3, q2 p4]
  exact Out.ok rfl ⟨p2, p1, rfl, rfl, rfl⟩

theorem refForm_cases (c : Int) : refForm c = 0 ∨ refForm c = 1 ∨ refForm c = 2 ∨ refForm c = 3 ∨ refForm c = 4 ∨ refForm c = 5 ∨ refForm c = 6 ∨ refForm c = 7 ∨ refForm c = 8 ∨ refForm c = 9 ∨ refForm c = 10 ∨ refForm c = 11 := by
  unfold refForm
  repeat' split
  all_goals omega

theorem numbers_step (rb g f c xb : Nat) (A : Option Addr) (bs : List UInt8) (r fl fr tu at_ : Int) (code : Nat) (w : World) (h : Hid (RS w rb g f c A bs r fl fr tu at_ 0)) (hx : Hid (IV w xb (code : Int) 0 0 0 (.slice none 0 0))) (hxb : rb < xb)
    (hr1 : 0 ≤ r) (hr2 : r ≤ 880000) (hl : bs.length ≤ 1000) (h1 : 0 ≤ at_) (h2 : at_ ≤ tu) (h4 : tu ≤ (bs.length : Int)) (hcode : code ≤ 200000) (hsome : (opRow (code : Int)).isSome = true) :
    Calls Tryz.prog 50 #[.pointer (some ⟨rb, 0, none⟩), .pointer (some ⟨xb, 0, none⟩)] w (FormStep w rb g f c xb A bs r fl fr tu at_ (code : Int) (numbersR code (partB bs at_ (tu - at_))) 1300) := by
  rcases refForm_cases (code : Int) with hk | hk | hk | hk | hk | hk | hk | hk | hk | hk | hk | hk

  · have e : numbersR code (partB bs at_ (tu - at_)) = ⟨0, 0, 0, 0, 0, []⟩ := by unfold numbersR; rw [hk]; simp
    rw [e]
    exact numbers_none rb g f c xb A bs r fl fr tu at_ code w h hx hxb hr1 hr2 hl h1 h2 h4 hcode (by omega) hsome
  · have e : numbersR code (partB bs at_ (tu - at_)) = blockR (partB bs at_ (tu - at_)) := by unfold numbersR; rw [hk]; simp
    rw [e]
    exact numbers_block rb g f c xb A bs r fl fr tu at_ code w h hx hxb hr1 hr2 hl h1 h2 h4 hcode (by omega) hsome
  · have e : numbersR code (partB bs at_ (tu - at_)) = oneR (partB bs at_ (tu - at_)) := by unfold numbersR; rw [hk]; simp
    rw [e]
    exact numbers_one rb g f c xb A bs r fl fr tu at_ code w h hx hxb hr1 hr2 hl h1 h2 h4 hcode (by omega) hsome
  · have e : numbersR code (partB bs at_ (tu - at_)) = tableR (partB bs at_ (tu - at_)) := by unfold numbersR; rw [hk]; simp
    rw [e]
    exact numbers_table rb g f c xb A bs r fl fr tu at_ code w h hx hxb hr1 hr2 hl h1 h2 h4 hcode (by omega) hsome
  · have e : numbersR code (partB bs at_ (tu - at_)) = oneR (partB bs at_ (tu - at_)) := by unfold numbersR; rw [hk]; simp
    rw [e]
    exact numbers_one rb g f c xb A bs r fl fr tu at_ code w h hx hxb hr1 hr2 hl h1 h2 h4 hcode (by omega) hsome
  · have e : numbersR code (partB bs at_ (tu - at_)) = twoR (partB bs at_ (tu - at_)) := by unfold numbersR; rw [hk]; simp
    rw [e]
    exact numbers_two rb g f c xb A bs r fl fr tu at_ code w h hx hxb hr1 hr2 hl h1 h2 h4 hcode (by omega) hsome
  · have e : numbersR code (partB bs at_ (tu - at_)) = oneR (partB bs at_ (tu - at_)) := by unfold numbersR; rw [hk]; simp
    rw [e]
    exact numbers_one rb g f c xb A bs r fl fr tu at_ code w h hx hxb hr1 hr2 hl h1 h2 h4 hcode (by omega) hsome
  · have e : numbersR code (partB bs at_ (tu - at_)) = oneR (partB bs at_ (tu - at_)) := by unfold numbersR; rw [hk]; simp
    rw [e]
    exact numbers_one rb g f c xb A bs r fl fr tu at_ code w h hx hxb hr1 hr2 hl h1 h2 h4 hcode (by omega) hsome
  · have e : numbersR code (partB bs at_ (tu - at_)) = memR (partB bs at_ (tu - at_)) := by unfold numbersR; rw [hk]; simp
    rw [e]
    exact numbers_mem rb g f c xb A bs r fl fr tu at_ code w h hx hxb hr1 hr2 hl h1 h2 h4 hcode (by omega) hsome
  · have e : numbersR code (partB bs at_ (tu - at_)) = oneR (partB bs at_ (tu - at_)) := by unfold numbersR; rw [hk]; simp
    rw [e]
    exact numbers_one rb g f c xb A bs r fl fr tu at_ code w h hx hxb hr1 hr2 hl h1 h2 h4 hcode (by omega) hsome
  · have e : numbersR code (partB bs at_ (tu - at_)) = twoR (partB bs at_ (tu - at_)) := by unfold numbersR; rw [hk]; simp
    rw [e]
    exact numbers_two rb g f c xb A bs r fl fr tu at_ code w h hx hxb hr1 hr2 hl h1 h2 h4 hcode (by omega) hsome
  · have e : numbersR code (partB bs at_ (tu - at_)) = constR code (partB bs at_ (tu - at_)) := by unfold numbersR; rw [hk]; simp
    rw [e]
    exact numbers_const rb g f c xb A bs r fl fr tu at_ code w h hx hxb hr1 hr2 hl h1 h2 h4 hcode (by omega) hsome
end Go.Proofs.YtpanlhbdphobdaaGreatDoor
