/-
  ConvParses, ConvPrints: the laws' walks.
-/
import Derived.Test.YtdgeabkanobldaaDoorConvL
import Derived.Test.YtdgeabkanobldaaDoorArgs
namespace Go.Proofs.YtdgeabkanobldaaDoor
open Go.RowKit
set_option linter.unusedVariables false

set_option maxHeartbeats 800000 in
theorem awakeP (w : World) (ht : Hid (LaidC w)) : Calls Tryd.prog 5 #[] w fun e w' => e = .returned (.bool true) ∧ Below w.heap.size w w' := by
  have hx := extend_yes 8 32 true 255 w ⟨.inl rfl, .inl rfl⟩ (by omega)
  rw [show extV 8 32 true 255 = 4294967295 from by decide +kernel] at hx
  have HX := hide hx; clear hx
  have hp := print_any 32 4294967295 w (by omega) ht
  rw [show Lib.itoa (signV 32 (4294967295 : Nat)) = [45, 49] from by decide +kernel] at hp
  have HP := hide hp; clear hp
  go_enter Tryd.func5, Tryd.ntmps5
  go_wp2_with fail
  refine HX.out.mono ?_; rintro e w' ⟨rfl, rfl⟩
  go_wp2_with fail
  refine HP.out.mono ?_; rintro e w' ⟨rfl, hb⟩
  have HB := hide hb; clear hb
  go_wp2_with fail
  go_ret
  exact ⟨rfl, HB.out⟩

theorem parse_hex (a : Nat) (ha : a ≤ 18446744073709551615) : parseF 64 (48 :: 120 :: digL 16 a) = some a := by
  unfold parseF
  rw [if_pos ((pre2_iff _).2 ⟨_, rfl⟩)]
  exact (readL_iff (by omega) (by omega) (by simp) _ a).2 ⟨rfl, by simp; omega⟩
theorem parse_digits {k : Nat} (hk : k = 32 ∨ k = 64) (v : Nat) (hv : v ≤ 2 ^ k - 1) : parseF k (digL 10 v) = some v := by
  have hm : 16 ≤ 2 ^ k - 1 := by rcases hk with rfl | rfl <;> simp
  unfold parseF
  rw [if_neg]
  · obtain ⟨c, r, e, hc⟩ := digL_head_any (b := 10) (by omega) (by omega) v
    have hr := (readL_iff (b := 10) (by omega) (by omega) hm (digL 10 v) v).2 ⟨rfl, hv⟩
    rw [e] at hr ⊢
    simp only [tensF]
    rw [if_neg, hr]
    intro h
    have : c = 45 := UInt8.toNat_inj.1 h
    subst this
    revert hc
    decide
  · intro h
    obtain ⟨r, hr⟩ := (pre2_iff _).1 h
    rcases Nat.eq_zero_or_pos v with h0 | h0
    · subst h0
      rw [digL_small (by omega)] at hr
      injection hr with _ hr
      cases hr
    · obtain ⟨c, r', e, hc⟩ := digL_head (b := 10) (by omega) (by omega) v h0
      rw [e] at hr
      injection hr with hr _
      subst hr
      exact hc rfl
theorem parse_minus {k : Nat} (hk : k = 32 ∨ k = 64) (u : Nat) (h1 : 1 ≤ u) (h2 : u ≤ 2 ^ (k - 1)) : parseF k (45 :: digL 10 u) = some (2 ^ k - u) := by
  have hm : 16 ≤ 2 ^ (k - 1) := by rcases hk with rfl | rfl <;> simp
  unfold parseF
  rw [if_neg]
  · have hr := (readL_iff (b := 10) (by omega) (by omega) hm (digL 10 u) u).2 ⟨rfl, h2⟩
    simp only [tensF]
    rw [if_pos (show (45 : UInt8).toNat = 45 from rfl), hr]
    simp only [Option.bind_some]
    rw [if_pos h1]
  · intro h
    obtain ⟨r, hr⟩ := (pre2_iff _).1 h
    injection hr with hr _
    revert hr
    decide
theorem parse_print32 (a : Nat) (ha : a ≤ 18446744073709551615) : parseF 32 (printL 32 a) = some (a % 4294967296) := by
  have hvl := valB_bitsK a 32
  obtain ⟨v, h1, h2, h3, h4⟩ := print_facts32 a ha
  simp only [Nat.reducePow] at hvl
  have hv : a % 4294967296 = v := by rw [← hvl, h2]
  rw [h4, hv]
  split
  · rw [parse_minus (.inl rfl) _ (by omega) (by simp only [Nat.reducePow, Nat.reduceSub]; omega)]
    exact congrArg some (by simp only [Nat.reducePow]; omega)
  · exact parse_digits (.inl rfl) v (by simp only [Nat.reducePow, Nat.reduceSub]; omega)
theorem parse_print64 (a : Nat) (ha : a ≤ 18446744073709551615) : parseF 64 (printL 64 a) = some a := by
  have hvl := valB_bitsK a 64
  obtain ⟨v, h1, h2, h3, h4⟩ := print_facts64 64 (by omega) a ha
  simp only [Nat.reducePow] at hvl
  have hv : a = v := by rw [← h2, hvl]; omega
  rw [h4, hv]
  split
  · rw [parse_minus (.inr rfl) _ (by omega) (by simp only [Nat.reducePow, Nat.reduceSub]; omega)]
    exact congrArg some (by simp only [Nat.reducePow]; omega)
  · exact parse_digits (.inr rfl) v (by simp only [Nat.reducePow, Nat.reduceSub]; omega)
theorem printL_len (b : Int) (a : Nat) (ha : a ≤ 18446744073709551615) : (printL b a).length ≤ 21 := by
  by_cases hb : b = 32
  · subst hb
    obtain ⟨v, h1, h2, h3, h4⟩ := print_facts32 a ha
    rw [h4]
    split
    · have := digL10_len (4294967296 - v) (by omega)
      simp only [List.length_cons]; omega
    · have := digL10_len v (by omega)
      omega
  · obtain ⟨v, h1, h2, h3, h4⟩ := print_facts64 b hb a ha
    rw [h4]
    split
    · have := digL10_len (18446744073709551616 - v) (by omega)
      simp only [List.length_cons]; omega
    · have := digL10_len v (by omega)
      omega

set_option maxHeartbeats 1600000 in
set_option maxRecDepth 100000 in
theorem ConvParses_walk (b : Int) (s : ByteArray) (w : World) (wb : (Lit.int .i64 b).wf = true) (hs : s.size ≤ maxLen) (ht : LaidC w) :
    Calls Tryd.prog 3 #[.int .i64 b, .string s] w fun e w' => e = .returned (.bool true) ∧ Below w.heap.size w w' := by
  obtain ⟨bs, rfl⟩ : ∃ bs : List UInt8, s = ⟨bs.toArray⟩ := ⟨s.data.toList, rfl⟩
  have hsz : (⟨bs.toArray⟩ : ByteArray).size = bs.length := rfl
  rw [hsz] at hs
  unfold maxLen at hs
  have HT := hide ht
  have HAW := hide (awakeP w HT)
  clear ht
  by_cases hl : bs.length ≤ 100
  · by_cases hk : b = 32 ∨ b = 64
    · obtain ⟨k, rfl⟩ : ∃ k : Nat, b = k := ⟨b.toNat, by omega⟩
      have hk' : k = 32 ∨ k = 64 := by omega
      have HP := hide (parse_any k hk' bs w (by omega) HT)
      have HR := hide (fun W => refParse_any k hk' bs W (by omega))
      obtain ⟨f, hf⟩ : ∃ f, parseF k bs = f := ⟨_, rfl⟩
      rw [hf] at HP HR
      clear hf hk
      rcases hk' with rfl | rfl
      all_goals
        cases f with
        | none =>
          go_enter Tryd.func3, Tryd.ntmps3
          go_wp2_with fail
          refine HP.out.mono ?_; rintro e w1 ⟨rfl, hb⟩
          have HB := hide hb; clear hb
          go_wp2_with fail
          refine (HR.out _).mono ?_; rintro e w' ⟨rfl, rfl⟩
          go_wp2_with fail
          refine (awakeP _ (HT.out.below HB.out)).mono ?_; rintro e w2 ⟨rfl, hb2⟩
          have HB2 := hide hb2; clear hb2
          go_wp2_with fail
          go_ret
          exact ⟨rfl, HB.out.trans (HB2.out.mono HB.out.size)⟩
        | some v =>
          go_enter Tryd.func3, Tryd.ntmps3
          go_wp2_with fail
          refine HP.out.mono ?_; rintro e w1 ⟨rfl, hb⟩
          have HB := hide hb; clear hb
          go_wp2_with fail
          refine (HR.out _).mono ?_; rintro e w' ⟨rfl, rfl⟩
          go_wp2_with fail
          refine (awakeP _ (HT.out.below HB.out)).mono ?_; rintro e w2 ⟨rfl, hb2⟩
          have HB2 := hide hb2; clear hb2
          go_wp2_with fail
          go_ret
          exact ⟨rfl, HB.out.trans (HB2.out.mono HB.out.size)⟩
    · have HP := hide (parse_arg b ⟨bs.toArray⟩ w (by omega) (by omega))
      have e1 : (b != 32) = true := by simp; omega
      have e2 : (b != 64) = true := by simp; omega
      clear hk
      go_enter Tryd.func3, Tryd.ntmps3
      go_wp2_with fail
      refine HP.out.mono ?_; rintro e w' ⟨rfl, rfl⟩
      go_wp2_with fail
      refine HAW.out.mono ?_; rintro e w2 ⟨rfl, hb2⟩
      have HB2 := hide hb2; clear hb2
      go_wp2_with fail
      go_ret
      exact ⟨rfl, HB2.out⟩
  · have hl2 : 100 < bs.length := by omega
    clear hl
    go_enter Tryd.func3, Tryd.ntmps3
    go_wp2_with fail
    refine HAW.out.mono ?_; rintro e w2 ⟨rfl, hb2⟩
    have HB2 := hide hb2; clear hb2
    go_wp2_with fail
    go_ret
    exact ⟨rfl, HB2.out⟩

set_option maxHeartbeats 1600000 in
set_option maxRecDepth 100000 in
theorem convPrints_32 (a : Nat) (w : World) (ha : a ≤ 18446744073709551615) (ht : Hid (LaidC w)) :
    Calls Tryd.prog 4 #[.int .i64 32, .int .u64 a] w fun e w' => e = .returned (.bool true) ∧ Below w.heap.size w w' := by
  have HPR := hide (fun W h => print_any 32 a W ha h)
  have HHX := hide (fun W h => hex_any a W ha h)
  have HRP := hide (fun W => refPrint_any 32 a W ha)
  have HRD := hide (fun W => refDigits_16 a W ha)
  have hl1 := printL_len 32 a ha
  have hl2 := digL16_len a ha
  have hpp : ∀ b, Lib.itoa (signV b a) = printL b a := fun _ => rfl
  rw [hpp] at HPR
  have hpa := hide (fun W h => (parse_print32 a ha) ▸ parse_any 32 (.inl rfl) (printL 32 a) W (by omega) h)
  have hph := hide (fun W h => parse_any 64 (.inr rfl) (48 :: 120 :: digL 16 a) W (by simp; omega) h)
  rw [parse_hex a ha] at hph
  generalize hL : printL 32 a = L at *
  have HHL := hide hL
  clear hL hpp
  have hst : (⟨#[48, 120]⟩ : ByteArray) ++ ⟨(digL 16 a).toArray⟩ = ⟨(48 :: 120 :: digL 16 a).toArray⟩ := str_cat [48, 120] (digL 16 a)
  go_enter Tryd.func4, Tryd.ntmps4
  go_wp2_with fail
  refine (HPR.out _ ht).mono ?_; rintro e w1 ⟨rfl, hb1⟩
  have HB1 := hide hb1; clear hb1
  go_wp2_with fail
  refine (HHX.out _ (ht.out.below HB1.out)).mono ?_; rintro e w2 ⟨rfl, hb⟩
  have HB2 := hide (HB1.out.trans (hb.mono HB1.out.size)); clear hb
  go_wp2_with fail
  refine (HRP.out _).mono ?_; rintro e w3 ⟨rfl, hb⟩
  have HB3 := hide (HB2.out.trans (hb.mono HB2.out.size)); clear hb
  go_wp2_with fail
  refine (HRD.out _).mono ?_; rintro e w4 ⟨rfl, hb⟩
  have HB4 := hide (HB3.out.trans (hb.mono HB3.out.size)); clear hb
  go_wp2_with fail
  refine (hpa.out _ (ht.out.below HB4.out)).mono ?_; rintro e w5 ⟨rfl, hb⟩
  have HB5 := hide (HB4.out.trans (hb.mono HB4.out.size)); clear hb
  go_wp2_with fail
  refine (hph.out _ (ht.out.below HB5.out)).mono ?_; rintro e w6 ⟨rfl, hb⟩
  have HB6 := hide (HB5.out.trans (hb.mono HB5.out.size)); clear hb
  go_wp2_with fail
  refine (awakeP _ (ht.out.below HB6.out)).mono ?_; rintro e w7 ⟨rfl, hb⟩
  have HB7 := hide (HB6.out.trans (hb.mono HB6.out.size)); clear hb
  go_wp2_with fail
  go_ret
  exact ⟨rfl, HB7.out⟩

set_option maxHeartbeats 1600000 in
set_option maxRecDepth 100000 in
theorem convPrints_64 (a : Nat) (w : World) (ha : a ≤ 18446744073709551615) (ht : Hid (LaidC w)) :
    Calls Tryd.prog 4 #[.int .i64 64, .int .u64 a] w fun e w' => e = .returned (.bool true) ∧ Below w.heap.size w w' := by
  have HPR := hide (fun W h => print_any 64 a W ha h)
  have HHX := hide (fun W h => hex_any a W ha h)
  have HRP := hide (fun W => refPrint_any 64 a W ha)
  have HRD := hide (fun W => refDigits_16 a W ha)
  have hl1 := printL_len 64 a ha
  have hl2 := digL16_len a ha
  have hpp : ∀ b, Lib.itoa (signV b a) = printL b a := fun _ => rfl
  rw [hpp] at HPR
  have hpa := hide (fun W h => (parse_print64 a ha) ▸ parse_any 64 (.inr rfl) (printL 64 a) W (by omega) h)
  have hph := hide (fun W h => parse_any 64 (.inr rfl) (48 :: 120 :: digL 16 a) W (by simp; omega) h)
  rw [parse_hex a ha] at hph
  generalize hL : printL 64 a = L at *
  have HHL := hide hL
  clear hL hpp
  have hst : (⟨#[48, 120]⟩ : ByteArray) ++ ⟨(digL 16 a).toArray⟩ = ⟨(48 :: 120 :: digL 16 a).toArray⟩ := str_cat [48, 120] (digL 16 a)
  go_enter Tryd.func4, Tryd.ntmps4
  go_wp2_with fail
  refine (HPR.out _ ht).mono ?_; rintro e w1 ⟨rfl, hb1⟩
  have HB1 := hide hb1; clear hb1
  go_wp2_with fail
  refine (HHX.out _ (ht.out.below HB1.out)).mono ?_; rintro e w2 ⟨rfl, hb⟩
  have HB2 := hide (HB1.out.trans (hb.mono HB1.out.size)); clear hb
  go_wp2_with fail
  refine (HRP.out _).mono ?_; rintro e w3 ⟨rfl, hb⟩
  have HB3 := hide (HB2.out.trans (hb.mono HB2.out.size)); clear hb
  go_wp2_with fail
  refine (HRD.out _).mono ?_; rintro e w4 ⟨rfl, hb⟩
  have HB4 := hide (HB3.out.trans (hb.mono HB3.out.size)); clear hb
  go_wp2_with fail
  refine (hpa.out _ (ht.out.below HB4.out)).mono ?_; rintro e w5 ⟨rfl, hb⟩
  have HB5 := hide (HB4.out.trans (hb.mono HB4.out.size)); clear hb
  go_wp2_with fail
  refine (hph.out _ (ht.out.below HB5.out)).mono ?_; rintro e w6 ⟨rfl, hb⟩
  have HB6 := hide (HB5.out.trans (hb.mono HB5.out.size)); clear hb
  go_wp2_with fail
  refine (awakeP _ (ht.out.below HB6.out)).mono ?_; rintro e w7 ⟨rfl, hb⟩
  have HB7 := hide (HB6.out.trans (hb.mono HB6.out.size)); clear hb
  go_wp2_with fail
  go_ret
  exact ⟨rfl, HB7.out⟩

set_option maxHeartbeats 1600000 in
set_option maxRecDepth 100000 in
theorem convPrints_other (b : Int) (h32 : b ≠ 32) (h64 : b ≠ 64) (a : Nat) (w : World) (ha : a ≤ 18446744073709551615) (ht : Hid (LaidC w)) :
    Calls Tryd.prog 4 #[.int .i64 b, .int .u64 a] w fun e w' => e = .returned (.bool true) ∧ Below w.heap.size w w' := by
  have HPR := hide (fun W h => print_any b a W ha h)
  have HHX := hide (fun W h => hex_any a W ha h)
  have HRP := hide (fun W => refPrint_any b a W ha)
  have HRD := hide (fun W => refDigits_16 a W ha)
  have hl1 := printL_len b a ha
  have hl2 := digL16_len a ha
  have hpp : ∀ b, Lib.itoa (signV b a) = printL b a := fun _ => rfl
  rw [hpp] at HPR
  have hpa := hide (fun W => parse_arg b ⟨(printL b a).toArray⟩ W h32 h64)
  have hph := hide (fun W h => parse_any 64 (.inr rfl) (48 :: 120 :: digL 16 a) W (by simp; omega) h)
  rw [parse_hex a ha] at hph
  generalize hL : printL b a = L at *
  have HHL := hide hL
  clear hL hpp
  have hst : (⟨#[48, 120]⟩ : ByteArray) ++ ⟨(digL 16 a).toArray⟩ = ⟨(48 :: 120 :: digL 16 a).toArray⟩ := str_cat [48, 120] (digL 16 a)
  have e1 : (b != 32) = true := by simp; omega
  have e2 : (b != 64) = true := by simp; omega
  clear h32 h64
  go_enter Tryd.func4, Tryd.ntmps4
  go_wp2_with fail
  refine (HPR.out _ ht).mono ?_; rintro e w1 ⟨rfl, hb1⟩
  have HB1 := hide hb1; clear hb1
  go_wp2_with fail
  refine (HHX.out _ (ht.out.below HB1.out)).mono ?_; rintro e w2 ⟨rfl, hb⟩
  have HB2 := hide (HB1.out.trans (hb.mono HB1.out.size)); clear hb
  go_wp2_with fail
  refine (HRP.out _).mono ?_; rintro e w3 ⟨rfl, hb⟩
  have HB3 := hide (HB2.out.trans (hb.mono HB2.out.size)); clear hb
  go_wp2_with fail
  refine (HRD.out _).mono ?_; rintro e w4 ⟨rfl, hb⟩
  have HB4 := hide (HB3.out.trans (hb.mono HB3.out.size)); clear hb
  go_wp2_with fail
  refine (hpa.out _ ).mono ?_; rintro e w5 ⟨rfl, rfl⟩
  have HB5 := HB4
  go_wp2_with fail
  refine (hph.out _ (ht.out.below HB5.out)).mono ?_; rintro e w6 ⟨rfl, hb⟩
  have HB6 := hide (HB5.out.trans (hb.mono HB5.out.size)); clear hb
  go_wp2_with fail
  refine (awakeP _ (ht.out.below HB6.out)).mono ?_; rintro e w7 ⟨rfl, hb⟩
  have HB7 := hide (HB6.out.trans (hb.mono HB6.out.size)); clear hb
  go_wp2_with fail
  go_ret
  exact ⟨rfl, HB7.out⟩

theorem ConvPrints_walk (b a : Int) (w : World) (wb : (Lit.int .i64 b).wf = true) (wa : (Lit.int .u64 a).wf = true) (ht : LaidC w) :
    Calls Tryd.prog 4 #[.int .i64 b, .int .u64 a] w fun e w' => e = .returned (.bool true) ∧ Below w.heap.size w w' := by
  obtain ⟨a, rfl, ha⟩ := u64_bd wa
  have ha' : a ≤ 18446744073709551615 := by simp at ha; omega
  by_cases h32 : b = 32
  · subst h32
    exact convPrints_32 a w ha' ht
  · by_cases h64 : b = 64
    · subst h64
      exact convPrints_64 a w ha' ht
    · exact convPrints_other b h32 h64 a w ha' ht
end Go.Proofs.YtdgeabkanobldaaDoor
