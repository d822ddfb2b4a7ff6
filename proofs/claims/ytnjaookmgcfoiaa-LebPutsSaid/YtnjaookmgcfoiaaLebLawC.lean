/-
  The laws LebWidths, LebNeeds: the walks.
-/
import Derived.Test.YtnjaookmgcfoiaaLebLawA
import Derived.Test.YtnjaookmgcfoiaaLebPutS
namespace Go.Proofs.Ytnjaookmgcfoiaa
open Go.RowKit
set_option linter.unusedVariables false

/-- Put of nothing ahead, and what is read of it -/
theorem putNil (n : Nat) (w : World) (hn : Hid (n < 2 ^ 64)) :
    Calls Try.prog 12 #[.slice none 0 0, .int .u64 n] w fun e w' => ∃ A c, e = .returned (.slice A (putN n).length c) ∧ Hid (Reads w' w'.heap.size 1 A (putN n).length ((putN n).map B)) ∧ Hid (Below w.heap.size w w') := by
  refine (put_any w.heap.size (.slice none 0 0) [] n w hn (own_nil _ _ _ _) (Nat.le_refl _) (by simp)).mono ?_
  rintro e w' ⟨v', rfl, ho, hg⟩
  have ho' : OwnB w' w.heap.size v' (putN n) := ho.cast (by simp)
  obtain ⟨A, c, rfl, _, _⟩ := own_form ho'
  exact ⟨A, c, rfl, Reads.of_own ho', hg.below (Nat.le_refl _) (by intro g h; simp [Value.ownBlock] at h)⟩

theorem putSNil (n : Int) (w : World) (h1 : -9223372036854775808 ≤ n) (h2 : n ≤ 9223372036854775807) :
    Calls Try.prog 13 #[.slice none 0 0, .int .i64 n] w fun e w' => ∃ A c, e = .returned (.slice A (putSN n).length c) ∧ Hid (Reads w' w'.heap.size 1 A (putSN n).length ((putSN n).map B)) ∧ Hid (Below w.heap.size w w') := by
  refine (putSigned_any w.heap.size (.slice none 0 0) [] n w h1 h2 (own_nil _ _ _ _) (Nat.le_refl _) (by simp)).mono ?_
  rintro e w' ⟨v', rfl, ho, hg⟩
  have ho' : OwnB w' w.heap.size v' (putSN n) := ho.cast (by simp)
  obtain ⟨A, c, rfl, _, _⟩ := own_form ho'
  exact ⟨A, c, rfl, Reads.of_own ho', hg.below (Nat.le_refl _) (by intro g h; simp [Value.ownBlock] at h)⟩

theorem width_of (bits : Int) : ∃ k : Nat, wrap64 (1 + wrap64 ((IntKind.u64.wrap bits).tmod 64)) = k ∧ 1 ≤ k ∧ k ≤ 64 := by
  rw [IntKind.wrap_u64]
  have h0 := Int.emod_nonneg bits (show (18446744073709551616 : Int) ≠ 0 by omega)
  generalize bits % 18446744073709551616 = b at *
  rw [Int.tmod_eq_emod_of_nonneg h0]
  refine ⟨(1 + b % 64).toNat, ?_, by omega, by omega⟩
  unfold wrap64
  omega

theorem shr_pos (n m : Nat) : ((0 : Int) < (n : Int) / 2 ^ m ↔ 2 ^ m ≤ n) := by
  have h : (n : Int) / 2 ^ m = ((n / 2 ^ m : Nat) : Int) := by rw [Int.natCast_ediv, Int.natCast_pow]; rfl
  rw [h]
  have hp := Nat.two_pow_pos m
  constructor
  · intro hh
    have : 1 ≤ n / 2 ^ m := by omega
    rw [Nat.le_div_iff_mul_le hp] at this
    omega
  · intro hh
    have : 1 ≤ n / 2 ^ m := by rw [Nat.le_div_iff_mul_le hp]; omega
    omega

set_option maxHeartbeats 800000 in
set_option maxRecDepth 100000 in
theorem LebWidths_walk (n bits : Int) (w : World) (wn : (Lit.int .u64 n).wf = true) (wb : (Lit.int .i64 bits).wf = true) :
    Calls Try.prog 4 #[.int .u64 n, .int .i64 bits] w fun e w' => e = .returned (.bool true) ∧ Below w.heap.size w w' := by
  obtain ⟨n, rfl, hn⟩ := u64_bd wn
  have HN := hide hn; clear hn wn wb
  have hlen : (putN n).length ≤ 70000 := by have := putN_length n; omega
  go_enter Try.func4, Try.ntmps4
  go_wp2_with fail
  obtain ⟨k, hk, hk1, hk2⟩ := width_of bits
  rw [hk]
  clear hk
  go_loop [6] (fun i => ∃ m : Nat, i = .int .i64 m ∧ 1 ≤ m ∧ m ≤ 64 ∧ Hid (∀ t, 1 ≤ t → t < m → 2 ^ t ≤ n)) (fun i => 64 - (intOf i).toNat)
  case atStart => exact ⟨1, rfl, by omega, by omega, fun t h1 h2 => by omega⟩
  case round =>
    obtain ⟨m, rfl, hm1, hm2, hm⟩ := hrel
    have hsh := hide (shr_pos n m)
    by_cases hm64 : m < 64
    · go_wp2_with fail
      · go_round
        case rel =>
          have hle := hsh.out.1 (by assumption)
          exact ⟨m + 1, by go_num, by omega, by omega, fun t h1 h2 => by
            rcases Nat.lt_or_ge t m with h | h
            · exact hm.out t h1 h
            · rw [show t = m from by omega]; exact hle⟩
        case measure => simp [intOf] <;> omega
      · have hdec : m ≤ k ↔ n < 2 ^ k := by
          have hlt : ¬ 2 ^ m ≤ n := fun h => by have := hsh.out.2 h; omega
          constructor
          · intro h; exact Nat.lt_of_lt_of_le (Nat.lt_of_not_le hlt) (Nat.pow_le_pow_right (by omega) h)
          · intro h
            rcases Nat.lt_or_ge k m with h2 | h2
            · have := hm.out k hk1 h2; omega
            · exact h2
        by_cases hmk : m ≤ k
        · have hu : Hid (unsignedL (putN n) (k : Int) = (n, (putN n).length, 0)) := by show unsignedL _ _ = _; rw [unsigned_put n k HN.out hk1 hk2, if_pos (hdec.1 hmk)]
          clear hdec
          refine (putNil n _ HN).mono ?_; rintro e w1 ⟨A, c, rfl, hr, hb⟩
          go_wp2_with fail
          refine (unsigned_any A c (putN n) k _ hr hlen n _ 0 hu).mono ?_; rintro e w2 ⟨rfl, rfl⟩
          go_wp2_with fail
          refine (awake_any _).mono ?_; rintro e w2 ⟨rfl, hb2⟩
          have HB2 := hide hb2; clear hb2
          go_wp2_with fail
          go_ret
          exact ⟨rfl, hb.out.trans (HB2.out.mono hb.out.size)⟩
        · have hu : Hid (unsignedL (putN n) (k : Int) = (0, 0, 4)) := by show unsignedL _ _ = _; rw [unsigned_put n k HN.out hk1 hk2, if_neg (fun h => hmk (hdec.2 h))]
          clear hdec
          refine (putNil n _ HN).mono ?_; rintro e w1 ⟨A, c, rfl, hr, hb⟩
          go_wp2_with fail
          refine (unsigned_any A c (putN n) k _ hr hlen 0 0 4 hu).mono ?_; rintro e w2 ⟨rfl, rfl⟩
          go_wp2_with fail
          refine (awake_any _).mono ?_; rintro e w2 ⟨rfl, hb2⟩
          have HB2 := hide hb2; clear hb2
          go_wp2_with fail
          go_ret
          exact ⟨rfl, hb.out.trans (HB2.out.mono hb.out.size)⟩
    · have hm' : m = 64 := by omega
      subst hm'
      go_wp2_with fail
      · have hdec : 64 ≤ k ↔ n < 2 ^ k := by
          constructor
          · intro h; rw [show k = 64 from by omega]; exact HN.out
          · intro h
            rcases Nat.lt_or_ge k 64 with h2 | h2
            · have := hm.out k hk1 h2; omega
            · exact h2
        by_cases hmk : 64 ≤ k
        · have hu : Hid (unsignedL (putN n) (k : Int) = (n, (putN n).length, 0)) := by show unsignedL _ _ = _; rw [unsigned_put n k HN.out hk1 hk2, if_pos (hdec.1 hmk)]
          clear hdec
          refine (putNil n _ HN).mono ?_; rintro e w1 ⟨A, c, rfl, hr, hb⟩
          go_wp2_with fail
          refine (unsigned_any A c (putN n) k _ hr hlen n _ 0 hu).mono ?_; rintro e w2 ⟨rfl, rfl⟩
          go_wp2_with fail
          refine (awake_any _).mono ?_; rintro e w2 ⟨rfl, hb2⟩
          have HB2 := hide hb2; clear hb2
          go_wp2_with fail
          go_ret
          exact ⟨rfl, hb.out.trans (HB2.out.mono hb.out.size)⟩
        · have hu : Hid (unsignedL (putN n) (k : Int) = (0, 0, 4)) := by show unsignedL _ _ = _; rw [unsigned_put n k HN.out hk1 hk2, if_neg (fun h => hmk (hdec.2 h))]
          clear hdec
          refine (putNil n _ HN).mono ?_; rintro e w1 ⟨A, c, rfl, hr, hb⟩
          go_wp2_with fail
          refine (unsigned_any A c (putN n) k _ hr hlen 0 0 4 hu).mono ?_; rintro e w2 ⟨rfl, rfl⟩
          go_wp2_with fail
          refine (awake_any _).mono ?_; rintro e w2 ⟨rfl, hb2⟩
          have HB2 := hide hb2; clear hb2
          go_wp2_with fail
          go_ret
          exact ⟨rfl, hb.out.trans (HB2.out.mono hb.out.size)⟩

theorem shr_fits (n : Int) (t : Nat) : (n / 2 ^ t = 0 ∨ n / 2 ^ t = -1) ↔ fits (t + 1) n := by
  unfold fits
  rw [Nat.add_sub_cancel]
  have hp : (0 : Int) < ((2 ^ t : Nat) : Int) := by have := Nat.two_pow_pos t; omega
  have he : (2 : Int) ^ t = ((2 ^ t : Nat) : Int) := by rw [Int.natCast_pow]; rfl
  rw [he]
  generalize ((2 ^ t : Nat) : Int) = p at *
  have h1 := Int.emod_add_mul_ediv n p
  have h2 := Int.emod_nonneg n (show p ≠ 0 by omega)
  have h3 := Int.emod_lt_of_pos n hp
  constructor
  · rintro (h | h) <;> rw [h] at h1 <;> omega
  · intro ⟨a, b⟩
    by_cases h0 : 0 ≤ n
    · left; exact Int.ediv_eq_zero_of_lt h0 b
    · right
      rw [Int.ediv_eq_iff_of_pos hp]
      omega

theorem fits_mono {n : Int} {a b : Nat} (h : fits a n) (hab : a ≤ b) : fits b n := by
  unfold fits at *
  have := Nat.pow_le_pow_right (n := 2) (by omega) (show a - 1 ≤ b - 1 by omega)
  omega
theorem needs_dec {n : Int} {m k : Nat} (hk1 : 1 ≤ k) (hm : ∀ t, t < m → ¬ fits (t + 1) n) (hf : fits (m + 1) n) : m + 1 ≤ k ↔ fits k n := by
  constructor
  · intro h; exact fits_mono hf h
  · intro h
    rcases Nat.lt_or_ge (k - 1) m with h2 | h2
    · exact absurd (by rw [show k - 1 + 1 = k from by omega]; exact h) (hm (k - 1) h2)
    · omega

set_option maxHeartbeats 800000 in
set_option maxRecDepth 100000 in
theorem LebNeeds_walk (n bits : Int) (w : World) (wn : (Lit.int .i64 n).wf = true) (wb : (Lit.int .i64 bits).wf = true) :
    Calls Try.prog 7 #[.int .i64 n, .int .i64 bits] w fun e w' => e = .returned (.bool true) ∧ Below w.heap.size w w' := by
  obtain ⟨hn1, hn2⟩ := i64_bd wn
  have HN := hide (And.intro hn1 hn2); clear hn1 hn2 wn wb
  have hlen : (putSN n).length ≤ 70000 := by unfold putSN; rw [putS_length]; have := sizeS_bd n HN.out.1 HN.out.2; omega
  go_enter Try.func7, Try.ntmps7
  go_wp2_with fail
  obtain ⟨k, hk, hk1, hk2⟩ := width_of bits
  rw [hk]
  clear hk
  go_loop [6] (fun i => ∃ m : Nat, i = .int .i64 ((m : Int) + 1) ∧ m ≤ 63 ∧ Hid (∀ t, t < m → ¬ fits (t + 1) n)) (fun i => 65 - (intOf i).toNat)
  case atStart => exact ⟨0, by go_num, by omega, fun t h1 => by omega⟩
  case round =>
    obtain ⟨m, rfl, hm2, hm⟩ := hrel
    have hsh := hide (shr_fits n m)
    by_cases hm64 : m < 63
    · go_wp2_with fail
      · have hz : n / 2 ^ m = 0 := by assumption
        have hdec := needs_dec hk1 hm.out (hsh.out.1 (.inl hz))
        clear hz
        by_cases hmk : m + 1 ≤ k
        · have hu : Hid (signedL (putSN n) (k : Int) = (n, (putSN n).length, 0)) := (signed_put n HN.out.1 HN.out.2 k hk1 hk2).1 (hdec.1 hmk)
          clear hdec
          refine (putSNil n _ HN.out.1 HN.out.2).mono ?_; rintro e w1 ⟨A, c, rfl, hr, hb⟩
          go_wp2_with fail
          refine (signed_any A c (putSN n) k _ hr hlen n _ 0 hu).mono ?_; rintro e w2 ⟨rfl, rfl⟩
          go_wp2_with fail
          refine (awake_any _).mono ?_; rintro e w2 ⟨rfl, hb2⟩
          have HB2 := hide hb2; clear hb2
          go_wp2_with fail
          go_ret
          exact ⟨rfl, hb.out.trans (HB2.out.mono hb.out.size)⟩
        · have hu : Hid (signedL (putSN n) (k : Int) = (0, 0, 4)) := (signed_put n HN.out.1 HN.out.2 k hk1 hk2).2 (fun h => hmk (hdec.2 h))
          clear hdec
          refine (putSNil n _ HN.out.1 HN.out.2).mono ?_; rintro e w1 ⟨A, c, rfl, hr, hb⟩
          go_wp2_with fail
          refine (signed_any A c (putSN n) k _ hr hlen 0 0 4 hu).mono ?_; rintro e w2 ⟨rfl, rfl⟩
          go_wp2_with fail
          refine (awake_any _).mono ?_; rintro e w2 ⟨rfl, hb2⟩
          have HB2 := hide hb2; clear hb2
          go_wp2_with fail
          go_ret
          exact ⟨rfl, hb.out.trans (HB2.out.mono hb.out.size)⟩
      · go_round
        case rel =>
          have hz : (n / 2 ^ m != 0) = true ∧ (n / 2 ^ m != -1) = true := by assumption
          have hnf : ¬ fits (m + 1) n := fun h => by
            rcases hsh.out.2 h with h | h <;> simp [h] at hz
          exact ⟨m + 1, by go_num, by omega, fun t h1 => by
            rcases Nat.lt_or_ge t m with h | h
            · exact hm.out t h
            · rw [show t = m from by omega]; exact hnf⟩
        case measure => simp [intOf] <;> omega
      · have hz : (n / 2 ^ m != 0) = false ∨ (n / 2 ^ m != -1) = false := by assumption
        have hdec := needs_dec hk1 hm.out (hsh.out.1 (by rcases hz with h | h <;> simp at h <;> simp [h]))
        clear hz
        by_cases hmk : m + 1 ≤ k
        · have hu : Hid (signedL (putSN n) (k : Int) = (n, (putSN n).length, 0)) := (signed_put n HN.out.1 HN.out.2 k hk1 hk2).1 (hdec.1 hmk)
          clear hdec
          refine (putSNil n _ HN.out.1 HN.out.2).mono ?_; rintro e w1 ⟨A, c, rfl, hr, hb⟩
          go_wp2_with fail
          refine (signed_any A c (putSN n) k _ hr hlen n _ 0 hu).mono ?_; rintro e w2 ⟨rfl, rfl⟩
          go_wp2_with fail
          refine (awake_any _).mono ?_; rintro e w2 ⟨rfl, hb2⟩
          have HB2 := hide hb2; clear hb2
          go_wp2_with fail
          go_ret
          exact ⟨rfl, hb.out.trans (HB2.out.mono hb.out.size)⟩
        · have hu : Hid (signedL (putSN n) (k : Int) = (0, 0, 4)) := (signed_put n HN.out.1 HN.out.2 k hk1 hk2).2 (fun h => hmk (hdec.2 h))
          clear hdec
          refine (putSNil n _ HN.out.1 HN.out.2).mono ?_; rintro e w1 ⟨A, c, rfl, hr, hb⟩
          go_wp2_with fail
          refine (signed_any A c (putSN n) k _ hr hlen 0 0 4 hu).mono ?_; rintro e w2 ⟨rfl, rfl⟩
          go_wp2_with fail
          refine (awake_any _).mono ?_; rintro e w2 ⟨rfl, hb2⟩
          have HB2 := hide hb2; clear hb2
          go_wp2_with fail
          go_ret
          exact ⟨rfl, hb.out.trans (HB2.out.mono hb.out.size)⟩
    · have hm' : m = 63 := by omega
      subst hm'
      go_wp2_with fail
      · have hdec := needs_dec (m := 63) (n := n) hk1 hm.out (by have := HN.out; unfold fits; simp only [Nat.reduceAdd, Nat.reduceSub, Nat.reducePow]; omega)
        by_cases hmk : 63 + 1 ≤ k
        · have hu : Hid (signedL (putSN n) (k : Int) = (n, (putSN n).length, 0)) := (signed_put n HN.out.1 HN.out.2 k hk1 hk2).1 (hdec.1 hmk)
          clear hdec
          refine (putSNil n _ HN.out.1 HN.out.2).mono ?_; rintro e w1 ⟨A, c, rfl, hr, hb⟩
          go_wp2_with fail
          refine (signed_any A c (putSN n) k _ hr hlen n _ 0 hu).mono ?_; rintro e w2 ⟨rfl, rfl⟩
          go_wp2_with fail
          refine (awake_any _).mono ?_; rintro e w2 ⟨rfl, hb2⟩
          have HB2 := hide hb2; clear hb2
          go_wp2_with fail
          go_ret
          exact ⟨rfl, hb.out.trans (HB2.out.mono hb.out.size)⟩
        · have hu : Hid (signedL (putSN n) (k : Int) = (0, 0, 4)) := (signed_put n HN.out.1 HN.out.2 k hk1 hk2).2 (fun h => hmk (hdec.2 h))
          clear hdec
          refine (putSNil n _ HN.out.1 HN.out.2).mono ?_; rintro e w1 ⟨A, c, rfl, hr, hb⟩
          go_wp2_with fail
          refine (signed_any A c (putSN n) k _ hr hlen 0 0 4 hu).mono ?_; rintro e w2 ⟨rfl, rfl⟩
          go_wp2_with fail
          refine (awake_any _).mono ?_; rintro e w2 ⟨rfl, hb2⟩
          have HB2 := hide hb2; clear hb2
          go_wp2_with fail
          go_ret
          exact ⟨rfl, hb.out.trans (HB2.out.mono hb.out.size)⟩
end Go.Proofs.Ytnjaookmgcfoiaa
