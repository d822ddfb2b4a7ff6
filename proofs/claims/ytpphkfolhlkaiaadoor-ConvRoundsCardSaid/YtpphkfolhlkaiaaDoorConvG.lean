/-
  ConvRounds: the law's walk.
-/
import Derived.Test.YtpphkfolhlkaiaaDoorConvF
namespace Go.Proofs.YtpphkfolhlkaiaaDoor
open Go.RowKit
set_option linter.unusedVariables false

theorem bytes_word (a : Nat) : ∀ n, wordN (bytesN a n) = a % 2 ^ (8 * n) := by
  intro n
  induction n with
  | zero => simp [bytesN, wordN, Nat.mod_one]
  | succ n ih =>
    rw [bytesN_succ, wordN_append, ih, bytesN_len, Nat.mul_succ, Nat.pow_add, Nat.mod_mul]
    congr 2
    unfold byteN
    simp [UInt8.toNat_ofNat']
theorem bytes_congr (a b n : Nat) (h : a % 2 ^ (8 * n) = b % 2 ^ (8 * n)) : bytesN a n = bytesN b n := by
  unfold bytesN
  refine List.map_congr_left fun i hi => ?_
  have hi' := List.mem_range.1 hi
  unfold byteN
  have hp : (2 : Nat) ^ (8 * n) = 2 ^ (8 * i) * 256 * 2 ^ (8 * (n - 1 - i)) := by
    rw [show (256 : Nat) = 2 ^ 8 from rfl, ← Nat.pow_add, ← Nat.pow_add]
    congr 1
    omega
  have key : ∀ c : Nat, c / 2 ^ (8 * i) % 256 = c % 2 ^ (8 * n) / 2 ^ (8 * i) % 256 := by
    intro c
    rw [hp, Nat.mul_assoc, Nat.mod_mul_right_div_self, Nat.mod_mul_right_mod]
  rw [key a, key b, h]
theorem extV_low (n : Nat) (sg : Bool) (v : Nat) : extV (8 * n) 64 sg v % 2 ^ (8 * n) = v % 2 ^ (8 * n) := by
  unfold extV
  rw [Nat.add_mul_mod_self_left, Nat.mod_mod]
theorem extV_plain (n v : Nat) (h : v < 2 ^ (8 * n)) : extV (8 * n) 64 false v = v := by
  unfold extV
  simp [Nat.mod_eq_of_lt h]
theorem extV_lt (n : Nat) (sg : Bool) (v : Nat) (h : 8 * n ≤ 64) : extV (8 * n) 64 sg v ≤ 18446744073709551615 := by
  unfold extV
  have h1 : v % 2 ^ (8 * n) < 2 ^ (8 * n) := Nat.mod_lt _ (Nat.two_pow_pos _)
  have h2 : 2 ^ (8 * n) * 2 ^ (64 - 8 * n) = 2 ^ 64 := by rw [← Nat.pow_add]; congr 1; omega
  have h3 := Nat.two_pow_pos (64 - 8 * n)
  have h4 : 2 ^ (8 * n) * (2 ^ (64 - 8 * n) - 1) + 2 ^ (8 * n) = 2 ^ 64 := by
    rw [← h2, ← Nat.mul_succ, Nat.succ_eq_add_one, Nat.sub_add_cancel h3]
  simp only [Nat.reducePow] at h4 ⊢
  split
  · omega
  · rw [Nat.mul_zero]; omega

/-- what Load answers of a word's bytes -/
def loadV (k : Nat) (sg : Bool) (v : Nat) : Nat := if k = 8 then v else extV (8 * k) 64 sg v

set_option maxHeartbeats 1600000 in
set_option maxRecDepth 100000 in
theorem convRounds_in (a : Nat) (n : Int) (sg : Bool) (w : World) (ha : a ≤ 18446744073709551615) (ht : Hid (Tab w)) :
    Calls Tryd.prog 5 #[.int .u64 a, .int .i64 n, .bool sg] w fun e w' => e = .returned (.bool true) ∧ Below w.heap.size w w' := by
  have hmod : (IntKind.u64.wrap n).tmod 4 = 0 ∨ (IntKind.u64.wrap n).tmod 4 = 1 ∨ (IntKind.u64.wrap n).tmod 4 = 2 ∨ (IntKind.u64.wrap n).tmod 4 = 3 := by
    have := (u64_wrap_bd n).1
    rw [Int.tmod_eq_emod_of_nonneg this]
    omega
  go_enter Tryd.func5, Tryd.ntmps5
  go_upto_region 1 with fail
  go_cut [7] (fun k wx => ∃ m : Nat, k = .int .i64 m ∧ countedN m ∧ Below w.heap.size w wx)
  case first =>
    rcases hmod with h | h | h | h
    · go_wp2_with fail
      go_meet
      exact ⟨1, rfl, .inl rfl, (Below.refl _ _).alloc (Nat.le_refl _) _⟩
    · go_wp2_with fail
      go_meet
      exact ⟨2, rfl, .inr (.inl rfl), (Below.refl _ _).alloc (Nat.le_refl _) _⟩
    · go_wp2_with fail
      go_meet
      exact ⟨4, rfl, .inr (.inr (.inl rfl)), (Below.refl _ _).alloc (Nat.le_refl _) _⟩
    · go_wp2_with fail
      go_meet
      exact ⟨8, rfl, .inr (.inr (.inr rfl)), (Below.refl _ _).alloc (Nat.le_refl _) _⟩
  obtain ⟨k, rfl, hc, hb⟩ := hcut
  have HB := hide hb; clear hb hmod
  have hT : Hid (∀ w2, Below w.heap.size w w2 → Tab w2) := fun w2 h => tab_below ht.out h
  clear ht
  have hk8 : k ≤ 8 := by unfold countedN at hc; omega
  have HY := hide (bytes_yes a k wc hc ha)
  have hlow := bytes_word a k
  have hlen := hide (bytesN_len a k)
  have hv := wordN_lt64 hlen.out hk8
  have hpow : a % 2 ^ (8 * k) < 2 ^ (8 * k) := Nat.mod_lt _ (Nat.two_pow_pos _)
  obtain ⟨v, hv'⟩ : ∃ v, a % 2 ^ (8 * k) = v := ⟨_, rfl⟩
  rw [hlow, hv'] at hv
  rw [hv'] at hlow hpow
  have HLOW := hide hlow
  obtain ⟨x, hx⟩ : ∃ x, loadV k sg v = x := ⟨_, rfl⟩
  have hxb : x ≤ 18446744073709551615 := by
    rw [← hx]; unfold loadV
    split
    · exact hv
    · exact extV_lt k sg v (by omega)
  have hxl : x % 2 ^ (8 * k) = v := by
    rw [← hx]; unfold loadV
    split
    · exact Nat.mod_eq_of_lt hpow
    · rw [extV_low, Nat.mod_eq_of_lt hpow]
  have hxs : sg = true ∨ (sg = false ∧ x = v) := by
    cases sg with
    | true => exact .inl rfl
    | false =>
      refine .inr ⟨rfl, ?_⟩
      rw [← hx]; unfold loadV
      split
      · rfl
      · exact extV_plain k v hpow
  have hbx := hide (bytes_congr x a k (by rw [hxl, hv']))
  have HLD : Hid (∀ (A : Option Addr) (c : Nat) (w2 : World), Hid (Reads w2 w2.heap.size 1 A k ((bytesN a k).map B)) → Calls Tryd.prog 13 #[.slice A k c, .int .i64 64, .bool sg] w2 fun e w' => e = .returned (.tuple #[.int .u64 x, .int .i64 0]) ∧ w2 = w') := by
    intro A c w2 hr2
    rw [← hx]
    unfold loadV
    by_cases h8 : k = 8
    · subst h8
      rw [if_pos rfl]
      have := load_whole A c (bytesN a 8) hlen sg w2 hr2
      rw [HLOW.out] at this
      exact this
    · rw [if_neg h8]
      have := load_ext A c (bytesN a k) k 64 hlen sg w2 (by unfold countedN at hc; unfold loadOk; omega) hr2
      rw [HLOW.out] at this
      exact this
  have HWD : Hid (∀ (A : Option Addr) (c : Nat) (w2 : World), Hid (Reads w2 w2.heap.size 1 A k ((bytesN a k).map B)) → Calls Tryd.prog 12 #[.slice A k c] w2 fun e w' => e = .returned (.tuple #[.int .u64 v, .int .i64 0]) ∧ w2 = w') := by
    intro A c w2 hr2
    have := word_yes A c (bytesN a k) k hlen w2 hc hr2
    rw [HLOW.out] at this
    exact this
  have HX2 : Hid (∀ w2 : World, Calls Tryd.prog 10 #[.int .u64 x, .int .i64 k] w2 (BytesP w2 (bytesN a k) k)) := by
    intro w2
    have := bytes_yes x k w2 hc hxb
    rw [hbx.out] at this
    exact this
  have HVV := hide hv'
  clear hlow hx hxb hxl hv' HLOW hbx hv hpow
  go_wp2_with fail
  refine HY.out.mono ?_; rintro e w1 ⟨A1, c1, rfl, hr1, hb1, hk1⟩
  go_wp2_with fail
  refine (HWD.out A1 c1 w1 hr1).mono ?_; rintro e w' ⟨rfl, rfl⟩
  go_wp2_with fail
  refine (HLD.out A1 c1 w1 hr1).mono ?_; rintro e w' ⟨rfl, rfl⟩
  go_wp2_with fail
  refine (HX2.out w1).mono ?_; rintro e w2 ⟨A2, c2, rfl, hr2, hb2, hk2⟩
  go_upto_region 7 with fail
  have hr3 : Hid (Reads w2 w1.heap.size 1 A1 k ((bytesN a k).map B)) := hr1.out.below hb2.out
  have HB2 := hide ((HB.out.trans (hb1.out.mono HB.out.size)).trans (hb2.out.mono (Nat.le_trans HB.out.size hb1.out.size)))
  clear HB HY HWD HLD HX2 hb1 hb2 hr1
  go_upto_if 48 with fail
  go_cut [16] (fun l wx => l = .int .u64 v ∧ wx = w2)
  case first =>
    unfold countedN at hc
    have hc' : k = 1 ∨ k = 2 ∨ k = 4 ∨ k = 8 := by omega
    have h0 := HVV.out
    clear hc HVV
    rcases hc' with rfl | rfl | rfl | rfl
    · have h1 : (a : Int) % 256 = v := by simp only [Nat.reduceMul, Nat.reducePow] at h0; omega
      clear h0
      go_wp2_with fail
      go_meet
      exact ⟨int_congr h1, rfl⟩
    · have h1 : (a : Int) % 65536 = v := by simp only [Nat.reduceMul, Nat.reducePow] at h0; omega
      clear h0
      go_wp2_with fail
      go_meet
      exact ⟨int_congr h1, rfl⟩
    · have h1 : (a : Int) % 4294967296 = v := by simp only [Nat.reduceMul, Nat.reducePow] at h0; omega
      clear h0
      go_wp2_with fail
      go_meet
      exact ⟨int_congr h1, rfl⟩
    · have h1 : (a : Int) = v := by simp only [Nat.reduceMul, Nat.reducePow] at h0; omega
      clear h0
      go_wp2_with fail
      go_meet
      exact ⟨by rw [h1], rfl⟩
  obtain ⟨rfl, rfl⟩ := hcut
  have hs1 := str_reads' k c1 hlen.out hr3.out
  have hs2 := str_reads' k c2 hlen.out hr2.out
  have HAW := hide (awakeC wc (hT.out wc HB2.out))
  clear hc
  rcases hxs with rfl | ⟨rfl, rfl⟩
  all_goals
    go_wp2_with fail
    refine HAW.out.mono ?_; rintro e w3 ⟨rfl, hb3⟩
    have HB3 := hide hb3; clear hb3
    go_wp2_with fail
    go_ret
    exact ⟨rfl, HB2.out.trans (HB3.out.mono HB2.out.size)⟩

theorem ConvRounds_walk (a n : Int) (sg : Bool) (w : World) (wa : (Lit.int .u64 a).wf = true) (wn : (Lit.int .i64 n).wf = true) (ht : Tab w) :
    Calls Tryd.prog 5 #[.int .u64 a, .int .i64 n, .bool sg] w fun e w' => e = .returned (.bool true) ∧ Below w.heap.size w w' := by
  obtain ⟨a, rfl, ha⟩ := u64_bd wa
  exact convRounds_in a n sg w (by simp at ha; omega) ht
end Go.Proofs.YtpphkfolhlkaiaaDoor
