/-
  conv: a word of other widths: contracts.
-/
import Derived.Test.YtdgeabkanobldaaDoorBits
namespace Go.Proofs.YtdgeabkanobldaaDoor
open Go.RowKit
set_option linter.unusedVariables false

theorem valB_rep (b : Bool) : ∀ k, valB (List.replicate k b) = if b then 2 ^ k - 1 else 0 := by
  intro k
  induction k with
  | zero => simp [valB]
  | succ k ih =>
    rw [List.replicate_succ, valB, ih, Nat.pow_succ]
    have := Nat.one_le_two_pow (n := k)
    cases b <;> simp <;> omega

/-- a word of f bits as one of t bits -/
def extV (f t : Nat) (sg : Bool) (a : Nat) : Nat := a % 2 ^ f + 2 ^ f * (if sg && bitN a (f - 1) then 2 ^ (t - f) - 1 else 0)
theorem extV_bits (f t : Nat) (sg : Bool) (a : Nat) : valB (bitsK a f ++ List.replicate (t - f) (sg && bitN a (f - 1))) = extV f t sg a := by
  unfold extV
  rw [valB_append, valB_bitsK, valB_rep, bitsK_len]

def widthsOk (f t : Int) : Prop := (f = 8 ∨ f = 16 ∨ f = 32) ∧ (t = 32 ∨ t = 64)

set_option maxHeartbeats 400000 in
theorem cut_any (n x : Int) (w : World) (h0 : 0 ≤ x) (h1 : x ≤ 18446744073709551615) :
    Calls Tryd.prog 24 #[.int .i64 n, .int .u64 x] w fun e w' => e = .returned (.int .u64 (if n = 32 then x % 4294967296 else x)) ∧ w = w' := by
  by_cases h : n = 32
  · subst h
    go_enter Tryd.func24, Tryd.ntmps24
    go_wp2_with fail
    go_ret
    exact ⟨rfl, rfl⟩
  · have h' : (n == 32) = false := by simpa using h
    rw [if_neg h]
    clear h
    go_enter Tryd.func24, Tryd.ntmps24
    go_wp2_with fail
    go_ret
    exact ⟨rfl, rfl⟩

theorem u64_wrap_bd (x : Int) : 0 ≤ IntKind.u64.wrap x ∧ IntKind.u64.wrap x ≤ 18446744073709551615 := by
  rw [IntKind.wrap_u64]; omega
set_option maxHeartbeats 400000 in
theorem widths_yes (f t : Int) (w : World) (h : widthsOk f t) :
    Calls Tryd.prog 23 #[.int .i64 f, .int .i64 t] w fun e w' => e = .returned (.bool true) ∧ w = w' := by
  obtain ⟨h1, h2⟩ := h
  rcases h1 with rfl | rfl | rfl <;> rcases h2 with rfl | rfl
  all_goals
    go_enter Tryd.func23, Tryd.ntmps23
    go_wp2_with fail
    go_ret
    exact ⟨rfl, rfl⟩
set_option maxHeartbeats 400000 in
theorem widths_no (f t : Int) (w : World) (h : ¬ widthsOk f t) :
    Calls Tryd.prog 23 #[.int .i64 f, .int .i64 t] w fun e w' => e = .returned (.bool false) ∧ w = w' := by
  unfold widthsOk at h
  by_cases h1 : f = 8 ∨ f = 16 ∨ f = 32
  · have e1 : (t == 32) = false := by simp; omega
    have e2 : (t == 64) = false := by simp; omega
    clear h
    rcases h1 with rfl | rfl | rfl
    all_goals
      go_enter Tryd.func23, Tryd.ntmps23
      go_wp2_with fail
      go_ret
      exact ⟨rfl, rfl⟩
  · have e1 : (f == 8) = false := by simp; omega
    have e2 : (f == 16) = false := by simp; omega
    have e3 : (f == 32) = false := by simp; omega
    clear h h1
    go_enter Tryd.func23, Tryd.ntmps23
    go_wp2_with fail
    go_ret
    exact ⟨rfl, rfl⟩

set_option maxHeartbeats 400000 in
theorem extend_no (f t : Int) (sg : Bool) (a : Nat) (w : World) (h : ¬ widthsOk f t) :
    Calls Tryd.prog 12 #[.int .i64 f, .int .i64 t, .bool sg, .int .u64 a] w fun e w' => e = .returned (.tuple #[.int .u64 0, .int .i64 1]) ∧ w = w' := by
  have H := hide (widths_no f t w h)
  clear h
  go_enter Tryd.func12, Tryd.ntmps12
  go_wp2_with fail
  refine H.out.mono ?_; rintro e w' ⟨rfl, rfl⟩
  go_wp2_with fail
  go_ret2
  exact ⟨rfl, rfl⟩

set_option maxHeartbeats 800000 in
theorem extend_yes (f t : Nat) (sg : Bool) (a : Nat) (w : World) (h : widthsOk f t) (ha : a ≤ 18446744073709551615) :
    Calls Tryd.prog 12 #[.int .i64 f, .int .i64 t, .bool sg, .int .u64 a] w fun e w' => e = .returned (.tuple #[.int .u64 (extV f t sg a : Nat), .int .i64 0]) ∧ w = w' := by
  have H := hide (widths_yes f t w h)
  obtain ⟨h1, h2⟩ := h
  have h1' : f = 8 ∨ f = 16 ∨ f = 32 := by omega
  have h2' : t = 32 ∨ t = 64 := by omega
  clear h1 h2
  rcases h1' with rfl | rfl | rfl <;> rcases h2' with rfl | rfl <;> cases sg
  · go_enter Tryd.func12, Tryd.ntmps12
    go_wp2_with fail
    refine H.out.mono ?_; rintro e w' ⟨rfl, rfl⟩
    go_wp2_with fail
    go_ret2
    refine ⟨tup2 (int_congr ?_) rfl, rfl⟩
    rw [IntKind.wrap_u64]
    unfold extV
    simp
    omega
  · go_enter Tryd.func12, Tryd.ntmps12
    go_wp2_with fail
    refine H.out.mono ?_; rintro e w' ⟨rfl, rfl⟩
    go_wp2_with fail
    refine (cut_any _ _ w (u64_wrap_bd _).1 (u64_wrap_bd _).2).mono ?_; rintro e w' ⟨rfl, rfl⟩
    go_wp2_with fail
    go_ret2
    refine ⟨tup2 (int_congr ?_) rfl, rfl⟩
    rw [IntKind.wrap_u64, IntKind.wrap_u64]
    unfold extV bitN wrap64
    by_cases hb : a / 128 % 2 = 1
    · have hb' : (a / 2 ^ (8 - 1) % 2 == 1) = true := by simpa using hb
      rw [hb']
      simp
      omega
    · have hb' : (a / 2 ^ (8 - 1) % 2 == 1) = false := by simpa using hb
      rw [hb']
      simp
      omega
  · go_enter Tryd.func12, Tryd.ntmps12
    go_wp2_with fail
    refine H.out.mono ?_; rintro e w' ⟨rfl, rfl⟩
    go_wp2_with fail
    go_ret2
    refine ⟨tup2 (int_congr ?_) rfl, rfl⟩
    rw [IntKind.wrap_u64]
    unfold extV
    simp
    omega
  · go_enter Tryd.func12, Tryd.ntmps12
    go_wp2_with fail
    refine H.out.mono ?_; rintro e w' ⟨rfl, rfl⟩
    go_wp2_with fail
    refine (cut_any _ _ w (u64_wrap_bd _).1 (u64_wrap_bd _).2).mono ?_; rintro e w' ⟨rfl, rfl⟩
    go_wp2_with fail
    go_ret2
    refine ⟨tup2 (int_congr ?_) rfl, rfl⟩
    rw [IntKind.wrap_u64, IntKind.wrap_u64]
    unfold extV bitN wrap64
    by_cases hb : a / 128 % 2 = 1
    · have hb' : (a / 2 ^ (8 - 1) % 2 == 1) = true := by simpa using hb
      rw [hb']
      simp
      omega
    · have hb' : (a / 2 ^ (8 - 1) % 2 == 1) = false := by simpa using hb
      rw [hb']
      simp
      omega
  · go_enter Tryd.func12, Tryd.ntmps12
    go_wp2_with fail
    refine H.out.mono ?_; rintro e w' ⟨rfl, rfl⟩
    go_wp2_with fail
    go_ret2
    refine ⟨tup2 (int_congr ?_) rfl, rfl⟩
    rw [IntKind.wrap_u64]
    unfold extV
    simp
    omega
  · go_enter Tryd.func12, Tryd.ntmps12
    go_wp2_with fail
    refine H.out.mono ?_; rintro e w' ⟨rfl, rfl⟩
    go_wp2_with fail
    refine (cut_any _ _ w (u64_wrap_bd _).1 (u64_wrap_bd _).2).mono ?_; rintro e w' ⟨rfl, rfl⟩
    go_wp2_with fail
    go_ret2
    refine ⟨tup2 (int_congr ?_) rfl, rfl⟩
    rw [IntKind.wrap_u64, IntKind.wrap_u64]
    unfold extV bitN wrap64
    by_cases hb : a / 32768 % 2 = 1
    · have hb' : (a / 2 ^ (16 - 1) % 2 == 1) = true := by simpa using hb
      rw [hb']
      simp
      omega
    · have hb' : (a / 2 ^ (16 - 1) % 2 == 1) = false := by simpa using hb
      rw [hb']
      simp
      omega
  · go_enter Tryd.func12, Tryd.ntmps12
    go_wp2_with fail
    refine H.out.mono ?_; rintro e w' ⟨rfl, rfl⟩
    go_wp2_with fail
    go_ret2
    refine ⟨tup2 (int_congr ?_) rfl, rfl⟩
    rw [IntKind.wrap_u64]
    unfold extV
    simp
    omega
  · go_enter Tryd.func12, Tryd.ntmps12
    go_wp2_with fail
    refine H.out.mono ?_; rintro e w' ⟨rfl, rfl⟩
    go_wp2_with fail
    refine (cut_any _ _ w (u64_wrap_bd _).1 (u64_wrap_bd _).2).mono ?_; rintro e w' ⟨rfl, rfl⟩
    go_wp2_with fail
    go_ret2
    refine ⟨tup2 (int_congr ?_) rfl, rfl⟩
    rw [IntKind.wrap_u64, IntKind.wrap_u64]
    unfold extV bitN wrap64
    by_cases hb : a / 32768 % 2 = 1
    · have hb' : (a / 2 ^ (16 - 1) % 2 == 1) = true := by simpa using hb
      rw [hb']
      simp
      omega
    · have hb' : (a / 2 ^ (16 - 1) % 2 == 1) = false := by simpa using hb
      rw [hb']
      simp
      omega
  · go_enter Tryd.func12, Tryd.ntmps12
    go_wp2_with fail
    refine H.out.mono ?_; rintro e w' ⟨rfl, rfl⟩
    go_wp2_with fail
    go_ret2
    refine ⟨tup2 (int_congr ?_) rfl, rfl⟩
    rw [IntKind.wrap_u64]
    unfold extV
    simp
    omega
  · go_enter Tryd.func12, Tryd.ntmps12
    go_wp2_with fail
    refine H.out.mono ?_; rintro e w' ⟨rfl, rfl⟩
    go_wp2_with fail
    refine (cut_any _ _ w (u64_wrap_bd _).1 (u64_wrap_bd _).2).mono ?_; rintro e w' ⟨rfl, rfl⟩
    go_wp2_with fail
    go_ret2
    refine ⟨tup2 (int_congr ?_) rfl, rfl⟩
    rw [IntKind.wrap_u64, IntKind.wrap_u64]
    unfold extV bitN wrap64
    by_cases hb : a / 2147483648 % 2 = 1
    · have hb' : (a / 2 ^ (32 - 1) % 2 == 1) = true := by simpa using hb
      rw [hb']
      simp
      omega
    · have hb' : (a / 2 ^ (32 - 1) % 2 == 1) = false := by simpa using hb
      rw [hb']
      simp
      omega
  · go_enter Tryd.func12, Tryd.ntmps12
    go_wp2_with fail
    refine H.out.mono ?_; rintro e w' ⟨rfl, rfl⟩
    go_wp2_with fail
    go_ret2
    refine ⟨tup2 (int_congr ?_) rfl, rfl⟩
    rw [IntKind.wrap_u64]
    unfold extV
    simp
    omega
  · go_enter Tryd.func12, Tryd.ntmps12
    go_wp2_with fail
    refine H.out.mono ?_; rintro e w' ⟨rfl, rfl⟩
    go_wp2_with fail
    refine (cut_any _ _ w (u64_wrap_bd _).1 (u64_wrap_bd _).2).mono ?_; rintro e w' ⟨rfl, rfl⟩
    go_wp2_with fail
    go_ret2
    refine ⟨tup2 (int_congr ?_) rfl, rfl⟩
    rw [IntKind.wrap_u64, IntKind.wrap_u64]
    unfold extV bitN wrap64
    by_cases hb : a / 2147483648 % 2 = 1
    · have hb' : (a / 2 ^ (32 - 1) % 2 == 1) = true := by simpa using hb
      rw [hb']
      simp
      omega
    · have hb' : (a / 2 ^ (32 - 1) % 2 == 1) = false := by simpa using hb
      rw [hb']
      simp
      omega
end Go.Proofs.YtdgeabkanobldaaDoor
