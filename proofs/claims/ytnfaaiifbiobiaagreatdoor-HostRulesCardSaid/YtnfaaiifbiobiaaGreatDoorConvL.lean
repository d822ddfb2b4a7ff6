/-
  The document's texts of words: contracts.
-/
import Derived.Test.YtnfaaiifbiobiaaGreatDoorConvK
import Derived.Test.YtnfaaiifbiobiaaGreatDoorBits
namespace Go.Proofs.YtnfaaiifbiobiaaGreatDoor
open Go.RowKit
set_option linter.unusedVariables false

theorem slice_from1 (c : UInt8) (r : List UInt8) (W : World) : (Instr.slice 9 (.string ⟨(c :: r).toArray⟩) (some (.int .i64 1)) none none).run Tryz.prog W = .ok (.string ⟨r.toArray⟩) W :=
  str_from (c :: r) 1 .i64 (by simp) W
theorem slice_from2 (a c : UInt8) (r : List UInt8) (W : World) : (Instr.slice 9 (.string ⟨(a :: c :: r).toArray⟩) (some (.int .i64 2)) none none).run Tryz.prog W = .ok (.string ⟨r.toArray⟩) W :=
  str_from (a :: c :: r) 2 .i64 (by simp) W
theorem slice_upto2 (a c : UInt8) (r : List UInt8) (W : World) : (Instr.slice 9 (.string ⟨(a :: c :: r).toArray⟩) none (some (.int .i64 2)) none).run Tryz.prog W = .ok (.string ⟨#[a, c]⟩) W :=
  str_upto (a :: c :: r) 2 .i64 (by simp) W
theorem index_0 (c : UInt8) (r : List UInt8) (W : World) : (Instr.index 9 (.string ⟨(c :: r).toArray⟩) (.int .i64 0)).run Tryz.prog W = .ok (.int .u8 (c.toNat : Int)) W :=
  str_at (c :: r) 0 .i64 rfl W
theorem pre2_iff (bs : List UInt8) : Lib.hasPrefix bs [48, 120] = true ↔ ∃ r, bs = 48 :: 120 :: r := by
  unfold Lib.hasPrefix
  constructor
  · intro h
    obtain ⟨t, rfl⟩ := List.isPrefixOf_iff_prefix.1 h
    exact ⟨t, rfl⟩
  · rintro ⟨r, rfl⟩
    exact List.isPrefixOf_iff_prefix.2 ⟨r, rfl⟩

/-- a word's text -/
def printL (b : Int) (a : Nat) : List UInt8 := Lib.itoa (signV b a)

theorem valB_top {a n : Nat} (hn : 1 ≤ n) : bitN a (n - 1) = decide (2 ^ (n - 1) ≤ a % 2 ^ n) := by
  unfold bitN
  obtain ⟨m, rfl⟩ : ∃ m, n = m + 1 := ⟨n - 1, by omega⟩
  rw [Nat.add_sub_cancel, Nat.mod_pow_succ]
  have h1 := Nat.mod_lt a (Nat.two_pow_pos m)
  have : a / 2 ^ m % 2 = 0 ∨ a / 2 ^ m % 2 = 1 := by omega
  rcases this with h | h <;> rw [h]
  · rw [decide_eq_false (by omega)]; rfl
  · rw [decide_eq_true (by omega)]; rfl

theorem itoa_pos (n : Nat) : Lib.itoa (n : Int) = digL 10 n := by rw [← decDigits_digL]; exact Lib.itoa_nonneg n
theorem itoa_neg' (n : Nat) (h : 1 ≤ n) : Lib.itoa (-(n : Int)) = 45 :: digL 10 n := by rw [← decDigits_digL]; exact Lib.itoa_neg n h

theorem print_facts32 (a : Nat) (ha : a ≤ 18446744073709551615) : ∃ v, v < 4294967296 ∧ valB (bitsK a 32) = v ∧ bitN a 31 = decide (2147483648 ≤ v) ∧ printL 32 a = if 2147483648 ≤ v then 45 :: digL 10 (4294967296 - v) else digL 10 v := by
  have hval := valB_bitsK a 32
  have htop := valB_top (a := a) (n := 32) (by omega)
  have hlt : a % 2 ^ 32 < 2 ^ 32 := Nat.mod_lt _ (Nat.two_pow_pos _)
  simp only [Nat.reducePow, Nat.reduceSub] at hval htop hlt
  have hvi : (a : Int) % 4294967296 = ((a % 4294967296 : Nat) : Int) := by omega
  refine ⟨a % 4294967296, hlt, hval, htop, ?_⟩
  generalize a % 4294967296 = v at hlt hvi
  unfold printL signV
  rw [if_pos rfl]
  unfold wrap32
  split
  · rw [← itoa_neg' _ (by omega)]
    exact congrArg Lib.itoa (by omega)
  · rw [← itoa_pos]
    exact congrArg Lib.itoa (by omega)
theorem print_facts64 (b : Int) (hb : b ≠ 32) (a : Nat) (ha : a ≤ 18446744073709551615) : ∃ v, v < 18446744073709551616 ∧ valB (bitsK a 64) = v ∧ bitN a 63 = decide (9223372036854775808 ≤ v) ∧ printL b a = if 9223372036854775808 ≤ v then 45 :: digL 10 (18446744073709551616 - v) else digL 10 v := by
  have hval := valB_bitsK a 64
  have htop := valB_top (a := a) (n := 64) (by omega)
  have hlt : a % 2 ^ 64 < 2 ^ 64 := Nat.mod_lt _ (Nat.two_pow_pos _)
  simp only [Nat.reducePow, Nat.reduceSub] at hval htop hlt
  have hvi : (a : Int) % 18446744073709551616 = ((a % 18446744073709551616 : Nat) : Int) := by omega
  refine ⟨a % 18446744073709551616, hlt, hval, htop, ?_⟩
  generalize a % 18446744073709551616 = v at hlt hvi
  unfold printL signV
  rw [if_neg hb]
  unfold wrap64
  split
  · rw [← itoa_neg' _ (by omega)]
    exact congrArg Lib.itoa (by omega)
  · rw [← itoa_pos]
    exact congrArg Lib.itoa (by omega)
set_option maxHeartbeats 1600000 in
set_option maxRecDepth 100000 in
theorem refPrint_32 (a : Nat) (w : World) (ha : a ≤ 18446744073709551615) :
    Calls Tryz.prog 9 #[.int .i64 32, .int .u64 a] w (SaysP w (printL 32 a)) := by
  obtain ⟨v, hvlt, hval, htop, hsg⟩ := print_facts32 a ha
  obtain ⟨L, hL⟩ : ∃ L, printL 32 a = L := ⟨_, rfl⟩
  rw [hL] at hsg ⊢
  have HSG := hide hsg
  clear hL
  have HVAL := hide hval
  have HTB := hide htop
  have HL := hide (refList_any 32 a w (by omega) (by show a < 2 ^ 64; simp only [Nat.reducePow]; omega))
  clear hval htop hsg
  go_enter Tryz.func9, Tryz.ntmps9
  go_wp2_with fail
  refine HL.out.mono ?_; rintro e w1 ⟨A1, c1, rfl, ho1, hb1, hc1⟩
  have hl64 : (bitsK a 32).length = 32 := bitsK_len a 32
  have hrd := Reads.of_own ho1.out
  have HW := hide (refWord_any A1 c1 (bitsK a 32) w1 hrd (by rw [hl64]; omega))
  rw [HVAL.out] at HW
  obtain ⟨tb, htb⟩ : ∃ q, decide (2147483648 ≤ v) = q := ⟨_, rfl⟩
  rw [htb] at HTB
  have hcell : ∃ ad : Addr, A1 = some ad ∧ w1.cell? ⟨ad.block, ad.off + 31, none⟩ = some (.bool tb) := by
    rw [hl64] at hrd
    obtain ⟨ad, h, _, hc⟩ := hrd.2 (by omega)
    have h2 := hc 31 (.bool tb) (by rw [List.getElem?_map, bitsK_get a 32 31 (by omega)]; show some (T (bitN a 31)) = _; rw [HTB.out]; rfl)
    exact ⟨ad, h, h2⟩
  obtain ⟨ad, rfl, hcell⟩ := hcell
  rw [hl64] at HW ⊢
  have HB1 := hide hb1.out
  clear hl64 hrd ho1 hb1 hc1
  cases tb with
  | false =>
    have hv3 : ¬ 2147483648 ≤ v := of_decide_eq_false htb
    have HLL := hide (HSG.out.trans (if_neg hv3))
    clear htb HSG
    go_wp2_with fail
    refine HW.out.mono ?_; rintro e w' ⟨rfl, rfl⟩
    go_wp2_with fail
    refine (refDigits_10 v _ (by omega)).mono ?_; rintro e w2 ⟨rfl, hb2⟩
    have HB2 := hide hb2; clear hb2
    go_wp2_with fail
    go_ret
    exact ⟨by rw [HLL.out]; rfl, HB1.out.trans (HB2.out.mono HB1.out.size)⟩
  | true =>
    have hv3 : 2147483648 ≤ v := of_decide_eq_true htb
    have HLP := hide (HSG.out.trans (if_pos hv3))
    clear htb HSG
    have hlen := digL10_len (4294967296 - v) (by omega)
    obtain ⟨x, hx⟩ : ∃ x, 4294967296 - v = x := ⟨_, rfl⟩
    have hxi : 4294967296 - (v : Int) = (x : Int) := by omega
    have hD := hide (fun W => refDigits_10 x W (by omega))
    have hll := HLP.out
    rw [hx] at hlen hll
    have HLL := hide hll
    clear hx hll HLP
    go_wp2_with fail
    refine HW.out.mono ?_; rintro e w' ⟨rfl, rfl⟩
    go_wp2_with fail
    refine (hD.out _).mono ?_; rintro e w2 ⟨rfl, hb2⟩
    have HB2 := hide hb2; clear hb2
    go_wp2_with fail
    go_ret
    exact ⟨by rw [HLL.out]; exact congrArg (fun s => Ending.returned (.string s)) (str_cat [45] _), HB1.out.trans (HB2.out.mono HB1.out.size)⟩
set_option maxHeartbeats 1600000 in
set_option maxRecDepth 100000 in
theorem refPrint_64 (b : Int) (hb : b ≠ 32) (a : Nat) (w : World) (ha : a ≤ 18446744073709551615) :
    Calls Tryz.prog 9 #[.int .i64 b, .int .u64 a] w (SaysP w (printL b a)) := by
  obtain ⟨v, hvlt, hval, htop, hsg⟩ := print_facts64 b hb a ha
  obtain ⟨L, hL⟩ : ∃ L, printL b a = L := ⟨_, rfl⟩
  rw [hL] at hsg ⊢
  have HSG := hide hsg
  clear hL
  have HVAL := hide hval
  have HTB := hide htop
  have HL := hide (refList_any 64 a w (by omega) (by show a < 2 ^ 64; simp only [Nat.reducePow]; omega))
  have e32 : (b == 32) = false := by simp; omega
  clear hval htop hsg
  go_enter Tryz.func9, Tryz.ntmps9
  go_wp2_with fail
  refine HL.out.mono ?_; rintro e w1 ⟨A1, c1, rfl, ho1, hb1, hc1⟩
  have hl64 : (bitsK a 64).length = 64 := bitsK_len a 64
  have hrd := Reads.of_own ho1.out
  have HW := hide (refWord_any A1 c1 (bitsK a 64) w1 hrd (by rw [hl64]; omega))
  rw [HVAL.out] at HW
  obtain ⟨tb, htb⟩ : ∃ q, decide (9223372036854775808 ≤ v) = q := ⟨_, rfl⟩
  rw [htb] at HTB
  have hcell : ∃ ad : Addr, A1 = some ad ∧ w1.cell? ⟨ad.block, ad.off + 63, none⟩ = some (.bool tb) := by
    rw [hl64] at hrd
    obtain ⟨ad, h, _, hc⟩ := hrd.2 (by omega)
    have h2 := hc 63 (.bool tb) (by rw [List.getElem?_map, bitsK_get a 64 63 (by omega)]; show some (T (bitN a 63)) = _; rw [HTB.out]; rfl)
    exact ⟨ad, h, h2⟩
  obtain ⟨ad, rfl, hcell⟩ := hcell
  rw [hl64] at HW ⊢
  have HB1 := hide hb1.out
  clear hl64 hrd ho1 hb1 hc1
  cases tb with
  | false =>
    have hv3 : ¬ 9223372036854775808 ≤ v := of_decide_eq_false htb
    have HLL := hide (HSG.out.trans (if_neg hv3))
    clear htb HSG
    go_wp2_with fail
    refine HW.out.mono ?_; rintro e w' ⟨rfl, rfl⟩
    go_wp2_with fail
    refine (refDigits_10 v _ (by omega)).mono ?_; rintro e w2 ⟨rfl, hb2⟩
    have HB2 := hide hb2; clear hb2
    go_wp2_with fail
    go_ret
    exact ⟨by rw [HLL.out]; rfl, HB1.out.trans (HB2.out.mono HB1.out.size)⟩
  | true =>
    have hv3 : 9223372036854775808 ≤ v := of_decide_eq_true htb
    have HLP := hide (HSG.out.trans (if_pos hv3))
    clear htb HSG
    have hlen := digL10_len (18446744073709551616 - v) (by omega)
    obtain ⟨x, hx⟩ : ∃ x, 18446744073709551616 - v = x := ⟨_, rfl⟩
    have hxi : 18446744073709551615 - (v : Int) + 1 = (x : Int) := by omega
    have hD := hide (fun W => refDigits_10 x W (by omega))
    have hll := HLP.out
    rw [hx] at hlen hll
    have HLL := hide hll
    clear hx hll HLP
    go_wp2_with fail
    refine HW.out.mono ?_; rintro e w' ⟨rfl, rfl⟩
    go_wp2_with fail
    refine (hD.out _).mono ?_; rintro e w2 ⟨rfl, hb2⟩
    have HB2 := hide hb2; clear hb2
    go_wp2_with fail
    go_ret
    exact ⟨by rw [HLL.out]; exact congrArg (fun s => Ending.returned (.string s)) (str_cat [45] _), HB1.out.trans (HB2.out.mono HB1.out.size)⟩

theorem refPrint_any (b : Int) (a : Nat) (w : World) (ha : a ≤ 18446744073709551615) :
    Calls Tryz.prog 9 #[.int .i64 b, .int .u64 a] w (SaysP w (printL b a)) := by
  by_cases hb : b = 32
  · subst hb
    exact refPrint_32 a w ha
  · exact refPrint_64 b hb a w ha
end Go.Proofs.YtnfaaiifbiobiaaGreatDoor
