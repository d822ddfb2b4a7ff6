/-
  conv: Parse, Print, Hex: contracts.
-/
import Derived.Test.YtnfaaiifbiobiaaDoorConvH
namespace Go.Proofs.YtnfaaiifbiobiaaDoor
open Go.RowKit
set_option linter.unusedVariables false

theorem tens_any (k : Nat) (hk : k = 32 ∨ k = 64) (bs : List UInt8) (w : World) (hl : bs.length ≤ 900) (ht : Hid (LaidC w)) :
    Calls Tryd.prog 37 #[.int .i64 k, .string ⟨bs.toArray⟩] w (Told (tensF k bs) w) := by
  by_cases h : ∃ r, bs = (45 : UInt8) :: r
  · obtain ⟨r, rfl⟩ := h
    exact tens_minus k hk r w (by simp at hl; omega) ht
  · exact tens_plus k hk bs w (by omega) (fun r hr => h ⟨r, hr⟩) ht

theorem digL_len_le {b : Nat} (hb : 2 ≤ b) (hb16 : b ≤ 16) : ∀ (L m : Nat), 1 ≤ L → m < b ^ L → (digL b m).length ≤ L := by
  intro L m
  induction m using Nat.strongRecOn generalizing L with
  | _ m ih =>
    intro hL hm
    by_cases h : m < b
    · rw [digL_small h]; simpa using hL
    · rw [digL_big hb (by omega), List.length_append, List.length_singleton]
      obtain ⟨L, rfl⟩ : ∃ K, L = K + 1 := ⟨L - 1, by omega⟩
      have hL1 : 1 ≤ L := by
        rcases Nat.eq_zero_or_pos L with h0 | h0
        · subst h0; rw [Nat.zero_add, Nat.pow_one] at hm; omega
        · exact h0
      have := ih (m / b) (Nat.div_lt_self (by omega) (by omega)) L hL1 ((Nat.div_lt_iff_lt_mul (by omega)).2 (by rw [Nat.pow_succ] at hm; exact hm))
      omega
theorem digL16_len (a : Nat) (ha : a ≤ 18446744073709551615) : (digL 16 a).length ≤ 16 := digL_len_le (by omega) (by omega) 16 a (by omega) (by simp; omega)
theorem digL10_len (a : Nat) (ha : a ≤ 18446744073709551615) : (digL 10 a).length ≤ 20 := digL_len_le (by omega) (by omega) 20 a (by omega) (by simp; omega)
def mostK (k : Nat) : Nat := 2 ^ k - 1
set_option maxHeartbeats 400000 in
theorem high_any (k : Nat) (hk : k = 32 ∨ k = 64) (w : World) :
    Calls Tryd.prog 40 #[.int .i64 k] w fun e w' => e = .returned (.int .u64 (mostK k : Nat)) ∧ w = w' := by
  rcases hk with rfl | rfl
  all_goals
    go_enter Tryd.func40, Tryd.ntmps40
    go_wp2_with fail
    go_ret
    exact ⟨rfl, rfl⟩

def parseR (ok : Bool) (v M : Nat) : Option Nat := if ok = true ∧ v ≤ M then some v else none
theorem parseR_yes {v M : Nat} (h : v ≤ M) : parseR true v M = some v := if_pos ⟨rfl, h⟩
theorem parseR_no {v M : Nat} (h : ¬ v ≤ M) : parseR true v M = none := if_neg fun h' => h h'.2
theorem parseR_false {v M : Nat} : parseR false v M = none := if_neg (by simp)
theorem parse_law {k : Nat} (hk : k = 32 ∨ k = 64) {bs : List UInt8} (hp : Lib.hasPrefix bs [48, 120] = true) (v : Nat) (ok : Bool) (h1 : ok = true → readL 16 18446744073709551615 (bs.drop 2) = some v) (h2 : ok = false → readL 16 18446744073709551615 (bs.drop 2) = none) :
    parseF k bs = parseR ok v (mostK k) := by
  unfold parseR
  have hm : 16 ≤ 2 ^ k - 1 := by rcases hk with rfl | rfl <;> simp
  have hm2 : 2 ^ k - 1 ≤ 18446744073709551615 := by rcases hk with rfl | rfl <;> simp
  unfold parseF mostK
  rw [if_pos hp]
  cases ok with
  | false =>
    rw [if_neg (by simp)]
    have h := h2 rfl
    cases hr : readL 16 (2 ^ k - 1) (bs.drop 2) with
    | none => rfl
    | some m =>
      obtain ⟨e1, e2⟩ := (readL_iff (by omega) (by omega) hm _ m).1 hr
      have := (readL_iff (b := 16) (most := 18446744073709551615) (by omega) (by omega) (by omega) (bs.drop 2) m).2 ⟨e1, by omega⟩
      rw [h] at this
      cases this
  | true =>
    have h := (readL_iff (b := 16) (most := 18446744073709551615) (by omega) (by omega) (by omega) (bs.drop 2) v).1 (h1 rfl)
    by_cases hv : v ≤ 2 ^ k - 1
    · rw [if_pos ⟨rfl, hv⟩]
      exact (readL_iff (by omega) (by omega) hm _ v).2 ⟨h.1, hv⟩
    · rw [if_neg (fun h' => hv h'.2)]
      cases hr : readL 16 (2 ^ k - 1) (bs.drop 2) with
      | none => rfl
      | some m =>
        obtain ⟨e1, e2⟩ := (readL_iff (by omega) (by omega) hm _ m).1 hr
        have := digL_inj (by omega) (by omega) (h.1.symm.trans e1)
        omega
theorem tensF_le {k : Nat} (hk : k = 32 ∨ k = 64) {bs : List UInt8} {v : Nat} (h : tensF k bs = some v) : v ≤ mostK k := by
  unfold mostK
  have hm : 16 ≤ 2 ^ k - 1 := by rcases hk with rfl | rfl <;> simp
  have hm2 : 16 ≤ 2 ^ (k - 1) := by rcases hk with rfl | rfl <;> simp
  cases bs with
  | nil => simp [tensF] at h
  | cons c r =>
    simp only [tensF] at h
    split at h
    · cases hr : readL 10 (2 ^ (k - 1)) r with
      | none => rw [hr] at h; simp at h
      | some u =>
        rw [hr] at h
        simp only [Option.bind_some] at h
        split at h
        · injection h with h; omega
        · cases h
    · exact ((readL_iff (by omega) (by omega) hm _ v).1 h).2
theorem parse_law2 {k : Nat} (hk : k = 32 ∨ k = 64) {bs : List UInt8} (hp : Lib.hasPrefix bs [48, 120] = false) (v : Nat) (ok : Bool) (h1 : ok = true → tensF k bs = some v) (h2 : ok = false → tensF k bs = none) :
    parseF k bs = parseR ok v (mostK k) := by
  unfold parseR
  unfold parseF
  rw [hp, if_neg (by simp)]
  cases ok with
  | false => rw [h2 rfl, if_neg (by simp)]
  | true =>
    have h := h1 rfl
    rw [if_pos ⟨rfl, tensF_le hk h⟩, h]

/-- what Parse answers -/
def ParseP (f : Option Nat) (w : World) (e : Ending) (w' : World) : Prop :=
  e = .returned (.tuple #[.int .u64 (f.getD 0 : Nat), .int .i64 (match f with | some _ => 0 | none => 4)]) ∧ Below w.heap.size w w'

set_option maxHeartbeats 1600000 in
theorem parse_any (k : Nat) (hk : k = 32 ∨ k = 64) (bs : List UInt8) (w : World) (hl : bs.length ≤ 900) (ht : Hid (LaidC w)) :
    Calls Tryd.prog 30 #[.int .i64 k, .string ⟨bs.toArray⟩] w (ParseP (parseF k bs) w) := by
  have H := hide (tens_any k hk bs w hl ht)
  have HC := hide (fun W => Tryd.strings_CutPrefix ⟨bs.toArray⟩ ⟨#[48, 120]⟩ W)
  rw [show (⟨bs.toArray⟩ : ByteArray).data.toList = bs from rfl, show (⟨#[48, 120]⟩ : ByteArray).data.toList = [48, 120] from rfl] at HC
  have HH := hide (fun W => high_any k hk W)
  have HK := hide hk
  have hmk : Hid (mostK k ≤ 18446744073709551615) := by show mostK k ≤ _; unfold mostK; rcases hk with rfl | rfl <;> simp
  obtain ⟨M, hM⟩ : ∃ M, mostK k = M := ⟨_, rfl⟩
  rw [hM] at HH hmk
  have HM := hide hM
  clear hM
  obtain ⟨g, hg⟩ : ∃ g, Lib.hasPrefix bs [48, 120] = g := ⟨_, rfl⟩
  have htr : Lib.trimPrefix bs [48, 120] = if g then bs.drop 2 else bs := by unfold Lib.trimPrefix; rw [hg]; rfl
  rw [hg, htr] at HC
  have HD := hide (fun W h => digits_any (bs.drop 2) W (by simp; omega) h)
  clear htr
  cases g with
  | true =>
    have HLW : Hid (∀ (v : Nat) (ok : Bool), (ok = true → readL 16 18446744073709551615 (bs.drop 2) = some v) → (ok = false → readL 16 18446744073709551615 (bs.drop 2) = none) → parseF k bs = parseR ok v M) := fun v ok h1 h2 => by
      rw [← HM.out]; exact parse_law hk hg v ok h1 h2
    clear hg
    rcases hk with rfl | rfl
    all_goals
      go_enter Tryd.func30, Tryd.ntmps30
      go_wp2_with fail
      refine H.out.mono ?_; rintro e w1 ⟨v, ok, rfl, hv, h1, h2, hb⟩
      have HB := hide hb
      have HL := hide (ht.out.below hb)
      clear hv hb h1 h2
      go_wp2_with fail
      refine (HC.out w1).mono ?_; rintro e w' ⟨rfl, rfl⟩
      go_wp2_with fail
      refine (HD.out _ HL).mono ?_; rintro e w2 ⟨v2, ok2, rfl, hv2, h12, h22, hb2⟩
      have hlaw := HLW.out v2 ok2 h12 h22
      have HLAW := hide hlaw
      have HB2 := hide (HB.out.trans (hb2.mono HB.out.size))
      have HMK := hmk.out
      clear hlaw h12 h22 hb2 HLW
      cases ok2 with
      | true =>
        by_cases hle : v2 ≤ M
        · have HLA := hide (HLAW.out.trans (parseR_yes hle))
          clear HLAW
          go_wp2_with fail
          refine (HH.out _).mono ?_; rintro e w' ⟨rfl, rfl⟩
          go_wp2_with fail
          go_ret2
          exact ⟨by rw [HLA.out]; rfl, HB2.out⟩
        · have HLA := hide (HLAW.out.trans (parseR_no hle))
          clear HLAW
          go_wp2_with fail
          refine (HH.out _).mono ?_; rintro e w' ⟨rfl, rfl⟩
          go_wp2_with fail
          go_ret2
          exact ⟨by rw [HLA.out]; rfl, HB2.out⟩
      | false =>
        have HLA := hide (HLAW.out.trans parseR_false)
        clear HLAW
        go_wp2_with fail
        go_ret2
        exact ⟨by rw [HLA.out]; rfl, HB2.out⟩
  | false =>
    have HLW : Hid (∀ (v : Nat) (ok : Bool), (ok = true → tensF k bs = some v) → (ok = false → tensF k bs = none) → parseF k bs = parseR ok v M) := fun v ok h1 h2 => by
      rw [← HM.out]; exact parse_law2 hk hg v ok h1 h2
    clear hg
    rcases hk with rfl | rfl
    all_goals
      go_enter Tryd.func30, Tryd.ntmps30
      go_wp2_with fail
      refine H.out.mono ?_; rintro e w1 ⟨v, ok, rfl, hv, h1, h2, hb⟩
      have HB := hide hb
      have HLAW := hide (HLW.out v ok h1 h2)
      have HMK := hmk.out
      clear hb h1 h2 HLW
      go_wp2_with fail
      refine (HC.out w1).mono ?_; rintro e w' ⟨rfl, rfl⟩
      cases ok with
      | true =>
        by_cases hle : v ≤ M
        · have HLA := hide (HLAW.out.trans (parseR_yes hle))
          clear HLAW
          go_wp2_with fail
          refine (HH.out _).mono ?_; rintro e w' ⟨rfl, rfl⟩
          go_wp2_with fail
          go_ret2
          exact ⟨by rw [HLA.out]; rfl, HB.out⟩
        · have HLA := hide (HLAW.out.trans (parseR_no hle))
          clear HLAW
          go_wp2_with fail
          refine (HH.out _).mono ?_; rintro e w' ⟨rfl, rfl⟩
          go_wp2_with fail
          go_ret2
          exact ⟨by rw [HLA.out]; rfl, HB.out⟩
      | false =>
        have HLA := hide (HLAW.out.trans parseR_false)
        clear HLAW
        go_wp2_with fail
        go_ret2
        exact ⟨by rw [HLA.out]; rfl, HB.out⟩

set_option maxHeartbeats 800000 in
theorem parse_arg (b : Int) (s : ByteArray) (w : World) (h1 : b ≠ 32) (h2 : b ≠ 64) :
    Calls Tryd.prog 30 #[.int .i64 b, .string s] w fun e w' => e = .returned (.tuple #[.int .u64 0, .int .i64 1]) ∧ w = w' := by
  have e1 : (b != 32) = true := by simp; omega
  have e2 : (b != 64) = true := by simp; omega
  clear h1 h2
  go_enter Tryd.func30, Tryd.ntmps30
  go_wp2_with fail
  go_ret2
  exact ⟨rfl, rfl⟩

/-- a word as a number with a sign -/
def signV (b : Int) (a : Nat) : Int := if b = 32 then wrap32 a else wrap64 a
set_option maxHeartbeats 400000 in
theorem sign_any (b : Int) (a : Nat) (w : World) (ha : a ≤ 18446744073709551615) : Calls Tryd.prog 53 #[.int .i64 b, .int .u64 a] w fun e w' => e = .returned (.int .i64 (signV b a)) ∧ w = w' := by
  unfold signV
  by_cases h : b = 32
  · subst h
    rw [if_pos rfl]
    go_enter Tryd.func53, Tryd.ntmps53
    go_wp2_with fail
    go_ret
    exact ⟨ret_int (by unfold wrap64 wrap32; omega), rfl⟩
  · rw [if_neg h]
    have e1 : (b == 32) = false := by simp; omega
    clear h
    go_enter Tryd.func53, Tryd.ntmps53
    go_wp2_with fail
    go_ret
    exact ⟨rfl, rfl⟩
theorem signV_bd (b : Int) (a : Nat) : -9223372036854775808 ≤ signV b a ∧ signV b a ≤ 9223372036854775807 := by
  unfold signV wrap32 wrap64
  split <;> omega
set_option maxHeartbeats 800000 in
theorem convPrint_any (b : Int) (a : Nat) (w : World) (ha : a ≤ 18446744073709551615) (ht : Hid (LaidC w)) :
    Calls Tryd.prog 41 #[.int .i64 b, .int .u64 a] w (SaysP w (Lib.itoa (signV b a))) := by
  have H := hide (fmtI10 (signV b a) w (signV_bd b a).1 (signV_bd b a).2 ht)
  have HS := hide (sign_any b a w ha)
  generalize signV b a = x at H HS ⊢
  go_enter Tryd.func41, Tryd.ntmps41
  go_wp2_with fail
  refine HS.out.mono ?_; rintro e w' ⟨rfl, rfl⟩
  go_wp2_with fail
  refine H.out.mono ?_; rintro e w' ⟨rfl, hb⟩
  have HB := hide hb; clear hb
  go_wp2_with fail
  go_ret
  exact ⟨rfl, HB.out⟩
end Go.Proofs.YtnfaaiifbiobiaaDoor
