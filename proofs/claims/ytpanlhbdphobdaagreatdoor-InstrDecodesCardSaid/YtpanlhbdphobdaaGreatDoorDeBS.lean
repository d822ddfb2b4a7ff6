/-
  Law 11: what was read of bytes may be: the plain law.
  The document's instructions: number: contract.
-/
import Derived.Test.YtpanlhbdphobdaaGreatDoorDeAW
import Derived.Test.YtpanlhbdphobdaaGreatDoorDeAS
import Derived.Test.YtpanlhbdphobdaaGreatDoorDeAU
import Derived.Test.YtpanlhbdphobdaaGreatDoorDeAV
namespace Go.Proofs.YtpanlhbdphobdaaGreatDoor
set_option linter.unusedVariables false

theorem labels_len : ∀ (n : Nat) (l : List UInt8), (labelsL n l).1 = 0 → (labelsL n l).2.2.length = n ∧ ∀ m ∈ (labelsL n l).2.2, m ≤ 4294967295 := by
  intro n
  induction n with
  | zero => intro l _; simp [labelsL]
  | succ n ih =>
    intro l h
    rw [labelsL] at h ⊢
    by_cases h1 : (unsignedL l 32).2.2 ≠ 0
    · rw [if_pos h1] at h; exact absurd h h1
    · rw [if_neg h1] at h ⊢
      by_cases h2 : (labelsL n (l.drop (unsignedL l 32).2.1)).1 ≠ 0
      · rw [if_pos h2] at h; exact absurd h h2
      · rw [if_neg h2]
        obtain ⟨a, b⟩ := ih (l.drop (unsignedL l 32).2.1) (by omega)
        have := unsignedL_lt32 l
        refine ⟨by simp [a], fun m hm => ?_⟩
        simp only [List.mem_cons] at hm
        rcases hm with rfl | hm
        · exact this
        · exact b m hm

structure NumOk (c : Nat) (d : DR) : Prop where
  right : rightF (refForm (c : Int)) ⟨c, d.a, d.b, d.al, d.l⟩ = true
  a : d.a < 18446744073709551616
  b : d.b < 18446744073709551616
  al : d.al ≤ 31
  l : ∀ n ∈ d.l, n < 18446744073709551616

theorem numbers_right (c : Nat) (l : List UInt8) (hf : 0 ≤ refForm (c : Int) ∧ refForm (c : Int) ≤ 11) (h : (numbersR c l).e = 0) : NumOk c (numbersR c l) := by
  unfold numbersR at h ⊢
  simp only at h ⊢
  by_cases h1 : refForm (c : Int) = 1
  · rw [if_pos h1] at h ⊢
    unfold blockR at h ⊢
    simp only at h ⊢
    by_cases e1 : (byteL l).2.2 ≠ 0
    · rw [if_pos e1] at h; exact absurd h e1
    rw [if_neg e1] at h ⊢
    by_cases e2 : (byteL l).1 = 64 ∨ (byteL l).1 = 126 ∨ (byteL l).1 = 127
    · rw [if_pos e2]
      refine ⟨?_, by show (byteL l).1 < _; omega, by simp, by simp, by simp⟩
      rw [h1]
      unfold rightF blocked
      rcases e2 with e | e | e <;> simp [e]
    · rw [if_neg e2] at h; simp [failR] at h
  rw [if_neg h1] at h ⊢
  by_cases h2 : refForm (c : Int) = 2 ∨ refForm (c : Int) = 4 ∨ refForm (c : Int) = 6 ∨ refForm (c : Int) = 7 ∨ refForm (c : Int) = 9
  · rw [if_pos h2] at h ⊢
    unfold oneR at h ⊢
    simp only at h ⊢
    have b1 := unsignedL_lt32 l
    by_cases e1 : (unsignedL l 32).2.2 ≠ 0
    · rw [if_pos e1] at h; exact absurd h e1
    rw [if_neg e1]
    refine ⟨?_, by show (unsignedL l 32).1 < _; omega, by simp, by simp, by simp⟩
    unfold rightF small
    rw [if_neg (by omega), if_neg h1, if_pos h2]
    simp [b1]
  rw [if_neg h2] at h ⊢
  by_cases h3 : refForm (c : Int) = 3
  · rw [if_pos h3] at h ⊢
    unfold tableR at h ⊢
    simp only at h ⊢
    by_cases e1 : (unsignedL l 32).2.2 ≠ 0
    · rw [if_pos e1] at h; exact absurd h e1
    rw [if_neg e1] at h ⊢
    by_cases e2 : 100 < (unsignedL l 32).1
    · rw [if_pos e2] at h; simp [failR] at h
    rw [if_neg e2] at h ⊢
    by_cases e3 : (labelsL (unsignedL l 32).1 (l.drop (unsignedL l 32).2.1)).1 ≠ 0
    · rw [if_pos e3] at h; exact absurd h e3
    rw [if_neg e3] at h ⊢
    obtain ⟨a, b⟩ := labels_len (unsignedL l 32).1 (l.drop (unsignedL l 32).2.1) (by omega)
    generalize (labelsL (unsignedL l 32).1 (l.drop (unsignedL l 32).2.1)) = p at h a b ⊢
    generalize ((l.drop (unsignedL l 32).2.1).drop p.2.1) = l2 at h ⊢
    have b2 := unsignedL_lt32 l2
    by_cases e4 : (unsignedL l2 32).2.2 ≠ 0
    · rw [if_pos e4] at h; exact absurd h e4
    rw [if_neg e4]
    refine ⟨?_, by show (unsignedL l2 32).1 < _; omega, by simp, by simp, fun n hn => by have := b n hn; omega⟩
    rw [h3]
    unfold rightF small
    have hb : (p.2.2.all fun n => decide (n ≤ 4294967295)) = true := by rw [List.all_eq_true]; intro n hn; exact decide_eq_true (b n hn)
    have hle : p.2.2.length ≤ 100 := by omega
    simp [b2, hb, hle]
    try exact b
  rw [if_neg h3] at h ⊢
  by_cases h5 : refForm (c : Int) = 5 ∨ refForm (c : Int) = 10
  · rw [if_pos h5] at h ⊢
    unfold twoR at h ⊢
    simp only at h ⊢
    have b1 := unsignedL_lt32 l
    by_cases e1 : (unsignedL l 32).2.2 ≠ 0
    · rw [if_pos e1] at h; exact absurd h e1
    rw [if_neg e1] at h ⊢
    generalize (l.drop (unsignedL l 32).2.1) = l2 at h ⊢
    have b2 := unsignedL_lt32 l2
    by_cases e4 : (unsignedL l2 32).2.2 ≠ 0
    · rw [if_pos e4] at h; exact absurd h e4
    rw [if_neg e4]
    refine ⟨?_, by show (unsignedL l 32).1 < _; omega, by show (unsignedL l2 32).1 < _; omega, by simp, by simp⟩
    unfold rightF small
    rw [if_neg (by omega), if_neg h1, if_neg h2, if_neg h3, if_pos h5]
    simp [b1, b2]
  rw [if_neg h5] at h ⊢
  by_cases h8 : refForm (c : Int) = 8
  · rw [if_pos h8] at h ⊢
    unfold memR at h ⊢
    simp only at h ⊢
    by_cases e1 : (unsignedL l 32).2.2 ≠ 0
    · rw [if_pos e1] at h; exact absurd h e1
    rw [if_neg e1] at h ⊢
    by_cases e2 : 31 < (unsignedL l 32).1 - 64 * ((unsignedL l 32).1 / 64 % 2)
    · rw [if_pos e2] at h; simp [failR] at h
    rw [if_neg e2] at h ⊢
    obtain ⟨s, hs⟩ : ∃ s, (if (unsignedL l 32).1 / 64 % 2 = 1 then unsignedL (l.drop (unsignedL l 32).2.1) 32 else (0, 0, 0)) = s := ⟨_, rfl⟩
    have b3 : s.1 ≤ 4294967295 := by
      rw [← hs]
      split
      · exact unsignedL_lt32 _
      · simp
    rw [hs] at h ⊢
    by_cases e3 : s.2.2 ≠ 0
    · rw [if_pos e3] at h; exact absurd h e3
    rw [if_neg e3] at h ⊢
    generalize ((l.drop (unsignedL l 32).2.1).drop s.2.1) = l2 at h ⊢
    have b2 := unsignedL_lt l2 64
    by_cases e4 : (unsignedL l2 64).2.2 ≠ 0
    · rw [if_pos e4] at h; exact absurd h e4
    rw [if_neg e4]
    generalize (unsignedL l 32).1 - 64 * ((unsignedL l 32).1 / 64 % 2) = al at e2 ⊢
    refine ⟨?_, by show s.1 < _; omega, by show (unsignedL l2 64).1 < _; omega, by show al ≤ 31; omega, by simp⟩
    rw [h8]
    unfold rightF small
    simp [b3]
    omega
  rw [if_neg h8] at h ⊢
  by_cases h11 : refForm (c : Int) = 11
  · rw [if_pos h11] at h ⊢
    unfold constR at h ⊢
    simp only at h ⊢
    by_cases e1 : (signedL l (if c = 66 then 64 else 32)).2.2 ≠ 0
    · rw [if_pos e1] at h; exact absurd h e1
    rw [if_neg e1]
    generalize (signedL l (if c = 66 then 64 else 32)).1 = v
    have bw : wordN (decide (c = 66)) v < 18446744073709551616 ∧ (c ≠ 66 → wordN (decide (c = 66)) v ≤ 4294967295) := by
      unfold wordN
      by_cases hc : c = 66
      · simp [hc]; omega
      · simp [hc]; omega
    generalize wordN (decide (c = 66)) v = k at bw ⊢
    refine ⟨?_, bw.1, by simp, by simp, by simp⟩
    rw [h11]
    unfold rightF small
    by_cases hc : c = 66
    · simp [hc]
    · have := bw.2 hc
      simp [this]
  · rw [if_neg h11]
    have h0 : refForm (c : Int) = 0 := by omega
    refine ⟨?_, by simp, by simp, by simp, by simp⟩
    rw [h0]
    rfl

/-- what was read may be -/
theorem decode_right (l : List UInt8) (hf : ∀ c : Nat, 0 ≤ refForm (c : Int) ∧ refForm (c : Int) ≤ 11) (h : (decodeR l).2.e = 0) :
    rightX ⟨(decodeR l).1, (decodeR l).2.a, (decodeR l).2.b, (decodeR l).2.al, (decodeR l).2.l⟩ = true ∧ NumOk (decodeR l).1 (decodeR l).2 := by
  unfold decodeR at h ⊢
  simp only at h ⊢
  by_cases e1 : codeE (codeL0 l).1 (codeL0 l).2.2 ≠ 0
  · rw [if_pos e1] at h; exact absurd h e1
  rw [if_neg e1] at h ⊢
  generalize hn : numbersR (codeL0 l).1 (l.drop (codeL0 l).2.1) = n at h ⊢
  by_cases e2 : n.e ≠ 0
  · rw [if_pos e2] at h; exact absurd h e2
  rw [if_neg e2]
  have hk := numbers_right (codeL0 l).1 (l.drop (codeL0 l).2.1) (hf _) (by rw [hn]; omega)
  rw [hn] at hk
  refine ⟨?_, hk.right, hk.a, hk.b, hk.al, hk.l⟩
  unfold rightX
  rw [Bool.and_eq_true]
  refine ⟨?_, hk.right⟩
  show (opRow ((codeL0 l).1 : Int)).isSome = true
  unfold codeE at e1
  cases ho : opRow ((codeL0 l).1 : Int) with
  | some r => rfl
  | none =>
    exfalso
    rw [ho] at e1
    apply e1
    split
    · assumption
    · split
      · simp
      · simp
end Go.Proofs.YtpanlhbdphobdaaGreatDoor

namespace Go.Proofs.YtpanlhbdphobdaaGreatDoor
open Go.RowKit
set_option linter.unusedVariables false

/-- a number at a place, if there is no error so far -/
def refNumR (bs : List UInt8) (at_ e : Nat) (bits : Int) : Nat × Nat × Nat :=
  if e ≠ 0 then (0, at_, e) else ((unsignedL (bs.drop at_) bits).1, at_ + (unsignedL (bs.drop at_) bits).2.1, (unsignedL (bs.drop at_) bits).2.2)
theorem refNumR_le (bs : List UInt8) (at_ e : Nat) (bits : Int) (h : at_ ≤ bs.length) : at_ ≤ (refNumR bs at_ e bits).2.1 ∧ (refNumR bs at_ e bits).2.1 ≤ bs.length := by
  unfold refNumR
  split
  · exact ⟨Nat.le_refl _, h⟩
  · have := unsigned_cases (bs.drop at_) bits
    rw [List.length_drop] at this
    simp only
    omega

/-- the bytes that are read, as they lie -/
structure BY (w : World) (A : Option Addr) (c Bk : Nat) (bs : List UInt8) : Prop where
  row : Reads w Bk 1 A bs.length (bs.map B)
  cap : bs.length ≤ c
theorem BY.below {w w' : World} {A : Option Addr} {c Bk : Nat} {bs : List UInt8} (h : BY w A c Bk bs) (hb : Below Bk w w') : BY w' A c Bk bs := ⟨h.row.below hb, h.cap⟩
theorem BY.at_ {w : World} {A : Option Addr} {c Bk : Nat} {bs : List UInt8} (h : BY w A c Bk bs) (k : Nat) (hk : k ≤ bs.length) (hB : Bk ≤ w.heap.size) :
    Reads w w.heap.size 1 (if c = k then A else A.map (·.add k)) (bs.length - k) ((bs.drop k).map B) := by
  have := (h.row.cut (k := k) hk h.cap).more hB
  simpa using this

/-- the two blocks that number makes -/
structure NB (w W : World) (g : Nat) (at_ e : Int) : Prop where
  h4 : W.heap[g]? = some (.cells #[.int .i64 at_, .int .i64 e] 55 (0, 0))
  h7 : W.heap[g + 1]? = some (.cells #[.int .i64 0, .int .i64 0] 55 (0, 0))
  bel : Below g w W
  size : W.heap.size = g + 2
theorem NB.of (w : World) (at_ e : Int) : NB w ((w.alloc (.cells #[.int .i64 at_, .int .i64 e] 55)).alloc (.cells #[.int .i64 0, .int .i64 0] 55)) w.heap.size at_ e := by
  refine ⟨?_, ?_, ((Below.refl _ _).alloc (Nat.le_refl _) _).alloc (by simp) _, by simp⟩
  · rw [Below.heap_alloc _ _ _ (by simp)]; exact heap_alloc_new w _
  · have := heap_alloc_new (w.alloc (.cells #[.int .i64 at_, .int .i64 e] 55)) (.cells #[.int .i64 0, .int .i64 0] 55)
    simpa using this

set_option maxRecDepth 100000 in
set_option maxHeartbeats 1600000 in
theorem refNumber_ok (A : Option Addr) (c Bk : Nat) (bs : List UInt8) (at_ : Nat) (bits : Int) (w : World) (hb : Hid (BY w A c Bk bs)) (hB : Bk ≤ w.heap.size) (hl : bs.length ≤ 400) (hat : at_ ≤ bs.length) (hcm : c ≤ maxLen) (q0 q1 q2 : Nat) (hq : Hid (unsignedL (bs.drop at_) bits = (q0, q1, q2))) :
    Calls Tryz.prog 59 #[.slice A bs.length c, .agg #[.int .i64 (at_ : Int), .int .i64 0], .int .i64 bits] w fun en w' =>
      en = .returned (.tuple #[.int .u64 (q0 : Int), .agg #[.int .i64 ((at_ : Int) + (q1 : Int)), .int .i64 (q2 : Int)]]) ∧ Hid (Below w.heap.size w w') := by
  unfold maxLen at hcm
  have hcap := hb.out.cap
  obtain ⟨g, hg⟩ : ∃ g, w.heap.size = g := ⟨_, rfl⟩
  have hnb := NB.of w (at_ : Int) 0
  generalize hW : (w.alloc (.cells #[.int .i64 (at_ : Int), .int .i64 0] 55)).alloc (.cells #[.int .i64 0, .int .i64 0] 55) = W at hnb
  rw [hg] at hnb
  have hu : refUnsignedL (bs.drop at_) bits = (q0, q1, q2) := by rw [← unsigned_law, hq.out]
  have hcs := unsigned_cases (bs.drop at_) bits
  rw [hq.out, List.length_drop] at hcs
  simp only at hcs
  have hq1 : q1 ≤ 400 := by omega
  have hq2 : at_ + q1 ≤ 400 := by omega
  have hbW := hb.out.below (hnb.bel.mono (by omega))
  have hrd := hbW.at_ at_ hat (by rw [hnb.size]; omega)
  have hll : (bs.drop at_).length = bs.length - at_ := by simp
  have d0 := cell_blk hnb.h4 0
  have d1 := cell_blk hnb.h4 1
  simp at d0 d1
  have HNB := hide hnb
  have HW := hide hW; have HG := hide hg
  clear hnb hW hg hcs hbW
  by_cases hc : c = at_
  · subst hc
    have hbs : bs.length = c := by omega
    have hd : bs.drop c = [] := List.drop_of_length_le (by omega)
    have HU := hide (refUnsigned_any A 0 [] bits W ⟨by simp, fun h => absurd h (by simp)⟩ (by simp) q0 q1 q2 (by rw [hd] at hu; exact hu))
    simp only [List.length_nil] at HU
    have HBS := hide hbs
    clear hll hrd hu hd hbs
    go_enter Tryz.func59, Tryz.ntmps59
    go_wp2_with fail
    rw [HW.out, HG.out]
    refine HU.out.mono ?_; rintro e w1 ⟨rfl, hb1⟩
    have k7 := hide ((hb1.block (g + 1) (by rw [HNB.out.size]; omega)).trans HNB.out.h7)
    have k4 := hide ((hb1.block g (by rw [HNB.out.size]; omega)).trans HNB.out.h4)
    have e0 := cell_blk k7.out 0
    have e1 := cell_blk k7.out 1
    simp at e0 e1
    have z0 := frozen_blk k7.out 0
    have z1 := frozen_blk k7.out 1
    have d0' := cell_blk k4.out 0
    simp at d0'
    have s1 : IntKind.i64.wrap ((c : Int) + (q1 : Int)) = (c : Int) + (q1 : Int) := IntWalk.i64_in _ (by omega)
    have HB1 := hide hb1
    clear hb1 d0 d1
    go_wp2_with fail
    go_region
    go_wp2_with fail
    refine bodyPost_ret (v := .tuple #[.int .u64 (q0 : Int), .agg #[.int .i64 ((c : Int) + (q1 : Int)), .int .i64 (q2 : Int)]]) (by simp [results, Tryz.results59, go_sem, e0, e1]) rfl ⟨rfl, ?_⟩
    have hs : ∀ (V : World) (i : Nat) (x : Value), Only [g + 1] V (V.setCell ⟨g + 1, i, none⟩ x) := fun V i x => Only.setCell V (p := ⟨g + 1, i, none⟩) (by simp) x
    rw [HG.out]
    refine (HNB.out.bel.trans (HB1.out.mono (by rw [HNB.out.size]; omega))).trans ?_
    exact (((hs w1 0 _).trans (hs _ 1 _)).trans (Only.drew _ _)).below (by have := HB1.out.size; rw [HNB.out.size] at this; omega) (by simp)
  · rw [if_neg hc] at hrd
    have HU := hide (refUnsigned_any (A.map (·.add at_)) (c - at_) (bs.drop at_) bits W (by rw [hll]; exact hrd) (by rw [hll]; omega) q0 q1 q2 hu)
    rw [hll] at HU
    clear hll hrd hu
    go_enter Tryz.func59, Tryz.ntmps59
    go_wp2_with fail
    rw [HW.out, HG.out]
    refine HU.out.mono ?_; rintro e w1 ⟨rfl, hb1⟩
    have k7 := hide ((hb1.block (g + 1) (by rw [HNB.out.size]; omega)).trans HNB.out.h7)
    have k4 := hide ((hb1.block g (by rw [HNB.out.size]; omega)).trans HNB.out.h4)
    have e0 := cell_blk k7.out 0
    have e1 := cell_blk k7.out 1
    simp at e0 e1
    have z0 := frozen_blk k7.out 0
    have z1 := frozen_blk k7.out 1
    have d0' := cell_blk k4.out 0
    simp at d0'
    have s1 : IntKind.i64.wrap ((at_ : Int) + (q1 : Int)) = (at_ : Int) + (q1 : Int) := IntWalk.i64_in _ (by omega)
    have HB1 := hide hb1
    clear hb1 d0 d1
    go_wp2_with fail
    go_region
    go_wp2_with fail
    refine bodyPost_ret (v := .tuple #[.int .u64 (q0 : Int), .agg #[.int .i64 ((at_ : Int) + (q1 : Int)), .int .i64 (q2 : Int)]]) (by simp [results, Tryz.results59, go_sem, e0, e1]) rfl ⟨rfl, ?_⟩
    have hs : ∀ (V : World) (i : Nat) (x : Value), Only [g + 1] V (V.setCell ⟨g + 1, i, none⟩ x) := fun V i x => Only.setCell V (p := ⟨g + 1, i, none⟩) (by simp) x
    rw [HG.out]
    refine (HNB.out.bel.trans (HB1.out.mono (by rw [HNB.out.size]; omega))).trans ?_
    exact (((hs w1 0 _).trans (hs _ 1 _)).trans (Only.drew _ _)).below (by have := HB1.out.size; rw [HNB.out.size] at this; omega) (by simp)

set_option maxRecDepth 100000 in
set_option maxHeartbeats 800000 in
theorem refNumber_no (A : Option Addr) (n c : Nat) (at_ e : Int) (bits : Int) (w : World) (he : e ≠ 0) :
    Calls Tryz.prog 59 #[.slice A n c, .agg #[.int .i64 at_, .int .i64 e], .int .i64 bits] w fun en w' =>
      en = .returned (.tuple #[.int .u64 0, .agg #[.int .i64 at_, .int .i64 e]]) ∧ Hid (Below w.heap.size w w') := by
  have f1 : (e != 0) = true := by simpa using he
  have f0 : (e == 0) = false := by simpa using he
  obtain ⟨g, hg⟩ : ∃ g, w.heap.size = g := ⟨_, rfl⟩
  have hnb := NB.of w at_ e
  generalize hW : (w.alloc (.cells #[.int .i64 at_, .int .i64 e] 55)).alloc (.cells #[.int .i64 0, .int .i64 0] 55) = W at hnb
  rw [hg] at hnb
  have d0 := cell_blk hnb.h4 0
  have d1 := cell_blk hnb.h4 1
  have e0 := cell_blk hnb.h7 0
  have e1 := cell_blk hnb.h7 1
  simp at d0 d1 e0 e1
  have z0 := frozen_blk hnb.h7 0
  have z1 := frozen_blk hnb.h7 1
  have HNB := hide hnb
  have HW := hide hW; have HG := hide hg
  clear he hnb hW hg
  go_enter Tryz.func59, Tryz.ntmps59
  go_upto_region 1 with fail
  rw [HW.out, HG.out]
  go_upto_region 2 with fail
  go_region
  go_wp2_with fail
  refine bodyPost_ret (v := .tuple #[.int .u64 0, .agg #[.int .i64 at_, .int .i64 e]]) (by simp [results, Tryz.results59, go_sem, e0, e1]) rfl ⟨rfl, ?_⟩
  have hs : ∀ (V : World) (i : Nat) (x : Value), Only [g + 1] V (V.setCell ⟨g + 1, i, none⟩ x) := fun V i x => Only.setCell V (p := ⟨g + 1, i, none⟩) (by simp) x
  rw [HG.out]
  exact HNB.out.bel.trans ((((hs W 0 _).trans (hs _ 1 _)).trans (Only.drew _ _)).below (by rw [HNB.out.size]; omega) (by simp))

/-- a number of the document's: the place and the error before it, and behind it -/
theorem refNumber_any (A : Option Addr) (c Bk : Nat) (bs : List UInt8) (at_ e : Nat) (bits : Int) (w : World) (hb : Hid (BY w A c Bk bs)) (hB : Bk ≤ w.heap.size) (hl : bs.length ≤ 400) (hat : at_ ≤ bs.length) (hcm : c ≤ maxLen) (r : Nat × Nat × Nat) (hr : Hid (refNumR bs at_ e bits = r)) :
    Calls Tryz.prog 59 #[.slice A bs.length c, .agg #[.int .i64 (at_ : Int), .int .i64 (e : Int)], .int .i64 bits] w fun en w' =>
      en = .returned (.tuple #[.int .u64 (r.1 : Int), .agg #[.int .i64 (r.2.1 : Int), .int .i64 (r.2.2 : Int)]]) ∧ Hid (Below w.heap.size w w') := by
  have hR := hr.out
  unfold refNumR at hR
  by_cases he : e = 0
  · subst he
    rw [if_neg (fun x => x rfl)] at hR
    obtain ⟨q0, q1, q2, hq⟩ : ∃ q0 q1 q2, unsignedL (bs.drop at_) bits = (q0, q1, q2) := ⟨_, _, _, rfl⟩
    rw [hq] at hR
    rw [← hR]
    refine (refNumber_ok A c Bk bs at_ bits w hb hB hl hat hcm q0 q1 q2 hq).mono ?_
    rintro en w' ⟨rfl, hb⟩
    exact ⟨by simp only [Int.natCast_add], hb⟩
  · rw [if_pos he] at hR
    rw [← hR]
    exact refNumber_no A bs.length c (at_ : Int) (e : Int) bits w (by omega)
end Go.Proofs.YtpanlhbdphobdaaGreatDoor
