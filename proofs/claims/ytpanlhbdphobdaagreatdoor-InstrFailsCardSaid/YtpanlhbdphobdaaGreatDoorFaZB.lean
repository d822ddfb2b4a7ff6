/-
  Law 11: InstrFails: the walk; for every input.
-/
import Derived.Test.YtpanlhbdphobdaaGreatDoorFaBR
import Derived.Test.YtpanlhbdphobdaaGreatDoorFaZA
import Derived.Test.YtpanlhbdphobdaaGreatDoorFaAU
namespace Go.Proofs.YtpanlhbdphobdaaGreatDoor
open Go.RowKit
set_option linter.unusedVariables false

theorem uns_e (l : List UInt8) (n : Int) : (unsignedL l n).2.2 ≤ 4 := by rcases unsigned_cases l n with h | h <;> omega
theorem sgn_e (l : List UInt8) (n : Int) : (signedL l n).2.2 ≤ 4 := by rcases signed_cases l n with h | h <;> omega
theorem lab_e : ∀ (n : Nat) (l : List UInt8), (labelsL n l).1 ≤ 4 := by
  intro n
  induction n with
  | zero => intro l; simp [labelsL]
  | succ n ih =>
    intro l
    rw [labelsL]
    split
    · exact uns_e _ _
    · split
      · exact ih _
      · simp
theorem byteL_e (l : List UInt8) : (byteL l).2.2 ≤ 4 := by cases l <;> simp [byteL]
def EOk (d : DR) : Prop := d.e ≤ 4 ∨ d.e = 15
theorem EOk.fail {e : Nat} (h : e ≤ 4) : EOk (failR e) := .inl h
theorem EOk.ite {p : Prop} [Decidable p] {a b : DR} (ha : EOk a) (hb : EOk b) : EOk (if p then a else b) := by
  by_cases h : p
  · rw [if_pos h]; exact ha
  · rw [if_neg h]; exact hb
theorem EOk.zero (k a b al : Nat) (l : List Nat) : EOk ⟨0, k, a, b, al, l⟩ := .inl (Nat.zero_le _)
theorem blockR_e (l : List UInt8) : EOk (blockR l) := EOk.ite (EOk.fail (byteL_e _)) (EOk.ite (EOk.zero _ _ _ _ _) (EOk.fail (Nat.le_refl 4)))
theorem oneR_e (l : List UInt8) : EOk (oneR l) := EOk.ite (EOk.fail (uns_e _ _)) (EOk.zero _ _ _ _ _)
theorem tableR_e (l : List UInt8) : EOk (tableR l) := EOk.ite (EOk.fail (uns_e _ _)) (EOk.ite (.inr rfl) (EOk.ite (EOk.fail (lab_e _ _)) (EOk.ite (EOk.fail (uns_e _ _)) (EOk.zero _ _ _ _ _))))
theorem twoR_e (l : List UInt8) : EOk (twoR l) := EOk.ite (EOk.fail (uns_e _ _)) (EOk.ite (EOk.fail (uns_e _ _)) (EOk.zero _ _ _ _ _))
theorem memR_e (l : List UInt8) : EOk (memR l) := by
  refine EOk.ite (EOk.fail (uns_e _ _)) (EOk.ite (EOk.fail (Nat.le_refl 4)) (EOk.ite (EOk.fail ?_) (EOk.ite (EOk.fail (uns_e _ _)) (EOk.zero _ _ _ _ _))))
  split
  · exact uns_e _ _
  · exact Nat.zero_le _
theorem constR_e (c : Nat) (l : List UInt8) : EOk (constR c l) := EOk.ite (EOk.fail (sgn_e _ _)) (EOk.zero _ _ _ _ _)
theorem numbers_e (c : Nat) (l : List UInt8) : EOk (numbersR c l) :=
  EOk.ite (blockR_e l) (EOk.ite (oneR_e l) (EOk.ite (tableR_e l) (EOk.ite (twoR_e l) (EOk.ite (memR_e l) (EOk.ite (constR_e c l) (EOk.zero _ _ _ _ _))))))
theorem decode_e9 (l : List UInt8) : (decodeR l).2.e ≠ 9 := by
  have hc : (codeL0 l).2.2 ≤ 4 := by
    unfold codeL0
    split
    · simp
    · split
      · exact uns_e _ _
      · simp
  have he : codeE (codeL0 l).1 (codeL0 l).2.2 ≤ 6 := by
    unfold codeE
    repeat' split
    all_goals omega
  unfold decodeR
  simp only
  by_cases h1 : codeE (codeL0 l).1 (codeL0 l).2.2 ≠ 0
  · rw [if_pos h1]
    show codeE _ _ ≠ 9
    omega
  rw [if_neg h1]
  have hn := numbers_e (codeL0 l).1 (l.drop (codeL0 l).2.1)
  generalize numbersR (codeL0 l).1 (l.drop (codeL0 l).2.1) = n at hn
  unfold EOk at hn
  by_cases h2 : n.e ≠ 0
  · rw [if_pos h2]
    show n.e ≠ 9
    omega
  · rw [if_neg h2]
    show n.e ≠ 9
    omega

theorem fails_many (A : Option Addr) (c : Nat) (bs : List UInt8) (n : Int) (w : World) (ht : Hid (LaidI w)) (hl : 200 < bs.length) (hm : bs.length ≤ 9223372036854775807) :
    Calls Tryz.prog 5 #[.slice A bs.length c, .int .u8 n] w fun e w' => e = .returned (.bool true) ∧ Hid (Below w.heap.size w w') := by
  have HA := hide (awake11 w ht)
  go_enter Tryz.func5, Tryz.ntmps5
  go_wp2_with fail
  refine HA.out.mono ?_; rintro e w1 ⟨rfl, h1⟩
  go_wp2_with fail
  go_ret
  exact ⟨rfl, h1⟩

set_option maxRecDepth 100000 in
set_option maxHeartbeats 6400000 in
theorem fails_few (A : Option Addr) (c : Nat) (bs : List UInt8) (fail : Int) (w : World) (ht : Hid (LaidI w)) (hr : Hid (Reads w w.heap.size 1 A bs.length (bs.map B))) (hl : bs.length ≤ 200) (hf0 : 0 ≤ fail) (hf1 : fail ≤ 255) :
    Calls Tryz.prog 5 #[.slice A bs.length c, .int .u8 fail] w fun e w' => e = .returned (.bool true) ∧ Hid (Below w.heap.size w w') := by
  have HA := hide (awake11 w ht)
  go_enter Tryz.func5, Tryz.ntmps5
  go_wp2_with fail
  refine HA.out.mono ?_; rintro e w1 ⟨rfl, h1⟩
  have HN := hide (new_any A c w.heap.size bs w1 (hide (hr.out.below h1.out)) (by omega))
  go_wp2_with fail
  refine HN.out.mono ?_; rintro e w2 ⟨f, Af, cf, rfl, hfl, hF, h2⟩
  clear HA HN
  go_wp2_with fail
  refine (failAt_any f cf Af bs 0 (-1) fail w2 hF).mono ?_; rintro e w2' ⟨rfl, hF', hO'⟩
  have HC := hide (cursor_any f cf Af bs 0 fail 0 (bs.length : Int) w2' hF' (by omega) (by omega) (by omega))
  go_wp2_with fail
  refine HC.out.mono ?_; rintro e w3 ⟨g, rfl, hg, hC3, h3⟩
  have hF3 := hide (hF'.out.below h3.out (blk_lt hF'.out.blk))
  have hfg := hC3.out.lt
  have hfw : w.heap.size ≤ f := Nat.le_trans h1.out.size hfl
  have hB3 : Hid (Below w.heap.size w w3) := by
    have a1 := h1.out.trans (h2.out.mono h1.out.size)
    have a2 := a1.trans (hO'.out.below a1.size (by simp; omega))
    exact a2.trans (h3.out.mono a2.size)
  clear HC hF hF' h1 h2 h3 hO' hg hfl
  go_wp2_with fail
  go_loopw [9] (fun i w1 => ∃ (k : Nat) (at_ r : Int), i = .int .i64 k ∧ (k : Int) ≤ at_ ∧ at_ ≤ (bs.length : Int) ∧ 0 ≤ r ∧ r ≤ 1330 * k ∧ r ≤ fail ∧ Hid (FL w1 f Af cf bs r fail) ∧ Hid (CU w1 g f 0 (bs.length : Int) at_) ∧ Hid (Below w.heap.size w w1)) (fun i _ => 220 - (intOf i).toNat)
  case atStart => exact ⟨0, 0, 0, rfl, by omega, by omega, by omega, by omega, hf0, hF3, hC3, hB3⟩
  case round =>
    obtain ⟨k, at_, r, rfl, hk, ha, hr0, hr1, hrf, hF, hC, hB⟩ := hrel
    have hk220 : (k : Int) < 220 := by omega
    have hgr : g < wr.heap.size := blk_lt hC.out.blk
    have HD := hide (decode_stepG g f cf Af bs r fail 0 (bs.length : Int) at_ wr hF hC (by omega) (by omega) (by omega) (by omega) (by omega) (by omega) (by omega) (hide (.inr hrf)))
    obtain ⟨res, hres⟩ : ∃ res, decodeR (partB bs at_ ((bs.length : Int) - at_)) = res := ⟨_, rfl⟩
    have HK : Hid (res.2.e = 0 → 1 ≤ res.2.k) := by show _ → _; intro h; rw [← hres] at h ⊢; exact (decodeR_k _ h).1
    have H9 : Hid (res.2.e ≠ 9) := by show _ ≠ _; rw [← hres]; exact decode_e9 _
    rw [hres] at HD
    clear hres
    go_wp2_with fail
    refine (at_any g f 0 (bs.length : Int) at_ _ hC).mono ?_; rintro e w4 ⟨rfl, rfl⟩
    go_wp2_with fail
    refine HD.out.mono ?_; rintro e w5 ⟨⟨code, xa, xb, al, Al, cl, xs, r', at', e', rfl, F5, C5, O5, own5, hq1, hq2, hat1, hat2, hxl, hcode, HOK, HGD⟩⟩
    obtain ⟨W5, hW5⟩ : ∃ W5, w5.alloc (.cells #[.int .i64 (code : Int), .int .u64 (xa : Int), .int .u64 (xb : Int), .int .i64 (al : Int), .slice Al xs.length cl] 28) = W5 := ⟨_, rfl⟩
    obtain ⟨gi, hgi⟩ : ∃ gi, w5.heap.size = gi := ⟨_, rfl⟩
    have hbi : Below gi w5 W5 := by rw [← hW5, ← hgi]; exact (Below.refl _ _).alloc (Nat.le_refl _) _
    have hs5 := O5.out.size
    have F6 := hide (F5.out.below hbi (by omega))
    have C6 := hide (C5.out.below hbi (by omega))
    have hB6 : Hid (Below w.heap.size w W5) := by
      have := hB.out.size
      exact (hB.out.trans (O5.out.below this (by simp; omega))).trans (hbi.mono (by omega))
    have HW5 := hide hW5; have HGI := hide hgi
    clear hW5 hgi hbi F5 C5 own5 O5 HD
    go_upto_region 11 with fail
    rw [HW5.out, HGI.out]
    by_cases he : e' = 0
    · subst he
      have hlt : at_ < at' := by
        rcases HOK.out with ⟨_, a2, a3, _⟩ | ⟨a1, _⟩
        · have := HK.out a2; omega
        · exact absurd rfl a1
      have hrf' : r' ≤ fail := by have := HGD.out rfl; omega
      have HRD := hide (reads_any f cf Af bs r' fail W5 F6 (by omega) (by omega))
      clear HOK HGD HK H9
      go_wp2_with fail
      refine (at_any g f 0 (bs.length : Int) at' _ C6).mono ?_; rintro e w6 ⟨rfl, rfl⟩
      go_wp2_with fail
      refine HRD.out.mono ?_; rintro e w6 ⟨rfl, rfl⟩
      go_wp2_with fail
      go_roundw
      case rel => exact ⟨k + 1, at', r', by go_num, by omega, by omega, by omega, by omega, by omega, F6, C6, hB6⟩
      case measure => simp [intOf] <;> omega
    · have hne : (e' != 0) = true := by simpa using he
      obtain ⟨q1, q2⟩ : at' = at_ ∧ (e' = 9 → fail < r') := by
        rcases HOK.out with ⟨a1, _⟩ | ⟨_, a2, _, _, _, _, _, h | h⟩
        · exact absurd a1 he
        · exact ⟨a2, fun h9 => absurd (by have := h.2; omega) H9.out⟩
        · exact ⟨a2, fun _ => h.2.2⟩
      subst q1
      have Q2 := hide q2
      have HE := hide he
      clear q2 he HOK HGD HK H9
      go_wp2_with fail
      refine (decode_nil _).mono ?_; rintro e w6 ⟨rfl, h6⟩
      obtain ⟨W7, hW7⟩ : ∃ W7, w6.alloc (.cells #[.int .i64 0, .int .u64 0, .int .u64 0, .int .i64 0, .slice none 0 0] 28) = W7 := ⟨_, rfl⟩
      have hb7 : Below W5.heap.size W5 W7 := h6.out.trans (by rw [← hW7]; exact (Below.refl _ _).alloc h6.out.size _)
      have F7 := hide (F6.out.below hb7 (blk_lt F6.out.blk))
      have C7 := hide (C6.out.below hb7 (blk_lt C6.out.blk))
      have hB7 : Hid (Below w.heap.size w W7) := hB6.out.trans (hb7.mono hB6.out.size)
      have HW7 := hide hW7
      clear hW7 hb7 h6
      go_upto_region 13 with fail
      rw [HW7.out]
      by_cases h9 : e' = 9
      · subst h9
        have hlt : fail < r' := Q2.out rfl
        have HRD := hide (reads_any f cf Af bs r' fail W7 F7 (by omega) (by omega))
        go_wp2_with fail
        refine (at_any g f 0 (bs.length : Int) at' _ C7).mono ?_; rintro e w8 ⟨rfl, rfl⟩
        go_wp2_with fail
        refine HRD.out.mono ?_; rintro e w8 ⟨rfl, rfl⟩
        go_wp2_with fail
        go_ret
        exact ⟨rfl, hB7⟩
      · have hn9 : (e' != 9) = true := by simpa using h9
        have H9' := hide h9
        clear h9
        go_wp2_with fail
        refine (at_any g f 0 (bs.length : Int) at' _ C7).mono ?_; rintro e w8 ⟨rfl, rfl⟩
        go_wp2_with fail
        go_ret
        exact ⟨rfl, hB7⟩
theorem InstrFails_walk (A : Option Addr) (cap : Nat) (bs : List UInt8) (n : Int) (w : World) (hr : Reads w w.heap.size 1 A bs.length (bs.map B)) (hc : bs.length ≤ cap) (hm : cap ≤ maxLen) (hn : (Lit.int .u8 n).wf = true) (hP : LaidLF w) :
    Calls Tryz.prog 5 #[.slice A bs.length cap, .int .u8 n] w fun e w' => e = .returned (.bool true) ∧ Below w.heap.size w w' := by
  have h := u8_bd hn
  by_cases hl : bs.length ≤ 200
  · exact fails_few A cap bs n w (hide hP.i) (hide hr) hl h.1 h.2
  · exact fails_many A cap bs n w (hide hP.i) (by omega) (by unfold maxLen at hm; omega)
end Go.Proofs.YtpanlhbdphobdaaGreatDoor
