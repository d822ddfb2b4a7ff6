/-
  The law LebApart: the walk.
-/
import Derived.Test.YtnjaookmgcfoiaaLebLawC
import Derived.Deep.QuietTactic
import Derived.BigQuiet
namespace Go.Proofs.Ytnjaookmgcfoiaa
open Go.RowKit
set_option linter.unusedVariables false

theorem str_reads {w : World} {Bk : Nat} {A : Option Addr} {bs : List UInt8} (c : Nat) (h : Reads w Bk 1 A bs.length (bs.map B)) (W : World) (hW : ∀ p : Addr, W.cell? p = w.cell? p) :
    (convert 22 9 (.slice A bs.length c)).run Try.prog W = .ok (.string ⟨bs.toArray⟩) W :=
  run_string_reads _ _ 5 c Try.underlying22 Try.underlying5 Try.underlying9 (h.keep fun p _ => hW p)

set_option maxHeartbeats 800000 in
set_option maxRecDepth 100000 in
theorem begins_any (A1 A2 : Option Addr) (c1 c2 B1 B2 : Nat) (xs ys : List UInt8) (w : World) (r1 : Hid (Reads w B1 1 A1 xs.length (xs.map B))) (r2 : Hid (Reads w B2 1 A2 ys.length (ys.map B))) (hc : xs.length ≤ c1) (hl1 : xs.length ≤ 1000000) (hl2 : ys.length ≤ 1000000) :
    Calls Try.prog 14 #[.slice A1 xs.length c1, .slice A2 ys.length c2] w fun e w' => e = .returned (.bool (decide (ys <+: xs))) ∧ ∃ n, w' = w.drewN n := by
  by_cases hle : ys.length ≤ xs.length
  · have h0 : (0 : Int) ≤ (ys.length : Int) := by omega
    have h1 : (ys.length : Int) ≤ (xs.length : Int) := by omega
    have h2 : (ys.length : Int) ≤ (c1 : Int) := by omega
    have hk1 : ∀ n, (convert 22 9 (.slice A1 ys.length c1)).run Try.prog (w.drewN n) = .ok (.string ⟨(xs.take ys.length).toArray⟩) (w.drewN n) := fun n => by
      have := str_reads (w := w) (Bk := B1) (A := A1) (bs := xs.take ys.length) c1 (by rw [List.length_take, Nat.min_eq_left hle, List.map_take]; simpa using r1.out.upto hle) (w.drewN n) (fun _ => rfl)
      rw [List.length_take, Nat.min_eq_left hle] at this
      exact this
    have hk2 : ∀ n, (convert 22 9 (.slice A2 ys.length c2)).run Try.prog (w.drewN n) = .ok (.string ⟨ys.toArray⟩) (w.drewN n) := fun n => str_reads c2 r2.out (w.drewN n) (fun _ => rfl)
    go_enter Try.func14, Try.ntmps14
    go_wp2_with fail
    go_quiet (fail)
    go_wp2_with fail
    go_ret
    refine ⟨?_, _, rfl⟩
    have : (List.take ys.length xs == ys) = decide (ys <+: xs) := by
      rw [Bool.eq_iff_iff, beq_iff_eq, decide_eq_true_iff, List.prefix_iff_eq_take]
      exact eq_comm
    exact congrArg (fun b => Ending.returned (.bool b)) this
  · have h1 : decide ((ys.length : Int) ≤ (xs.length : Int)) = false := by simp; omega
    have hn : Hid (decide (ys <+: xs) = false) := by show _ = _; rw [decide_eq_false_iff_not]; intro h; exact hle h.length_le
    go_enter Try.func14, Try.ntmps14
    go_wp2_with fail
    go_quiet (fail)
    go_wp2_with fail
    go_ret
    rw [hn.out]
    exact ⟨rfl, _, rfl⟩

/-- no number's bytes begin with another one's -/
theorem putN_apart : ∀ (f n m : Nat), n < 128 ^ f → n < 2 ^ 64 → m < 2 ^ 64 → putN n <+: putN m → n = m := by
  intro f
  induction f with
  | zero =>
    intro n m h h1 h2 hp
    have h0 : n = 0 := by simpa using h
    subst h0
    rw [putN_small 0 (by omega)] at hp
    by_cases hm : m < 128
    · rw [putN_small m hm, List.cons_prefix_cons] at hp
      have := congrArg UInt8.toNat hp.1
      rw [ofNat_lt 0 (by omega), ofNat_lt m (by omega)] at this
      exact this
    · rw [putN_step m (by omega) h2, List.cons_prefix_cons] at hp
      have := congrArg UInt8.toNat hp.1
      rw [ofNat_lt 0 (by omega), ofNat_lt _ (by omega)] at this
      omega
  | succ f ih =>
    intro n m h h1 h2 hp
    by_cases hn : n < 128
    · rw [putN_small n hn] at hp
      by_cases hm : m < 128
      · rw [putN_small m hm, List.cons_prefix_cons] at hp
        have := congrArg UInt8.toNat hp.1
        rw [ofNat_lt n (by omega), ofNat_lt m (by omega)] at this
        exact this
      · rw [putN_step m (by omega) h2, List.cons_prefix_cons] at hp
        have := congrArg UInt8.toNat hp.1
        rw [ofNat_lt n (by omega), ofNat_lt _ (by omega)] at this
        omega
    · rw [putN_step n (by omega) h1] at hp
      by_cases hm : m < 128
      · rw [putN_small m hm, List.cons_prefix_cons] at hp
        have := congrArg UInt8.toNat hp.1
        rw [ofNat_lt _ (by omega), ofNat_lt m (by omega)] at this
        omega
      · rw [putN_step m (by omega) h2, List.cons_prefix_cons] at hp
        have h3 := congrArg UInt8.toNat hp.1
        rw [ofNat_lt _ (by omega), ofNat_lt _ (by omega)] at h3
        have h4 := ih (n / 128) (m / 128) (by rw [Nat.div_lt_iff_lt_mul (by omega)]; rw [Nat.pow_succ] at h; exact h) (Nat.lt_of_le_of_lt (Nat.div_le_self _ _) h1) (Nat.lt_of_le_of_lt (Nat.div_le_self _ _) h2) hp.2
        omega

theorem putS_apart : ∀ (j i : Nat) (n m : Int), putS j n <+: putS i m → j = i ∧ n % (2 ^ (7 * (j + 1)) : Nat) = m % (2 ^ (7 * (j + 1)) : Nat) := by
  intro j
  induction j with
  | zero =>
    intro i n m hp
    cases i with
    | zero =>
      rw [putS, putS, List.cons_prefix_cons] at hp
      have := congrArg UInt8.toNat hp.1
      rw [ofNat_lt _ (by omega), ofNat_lt _ (by omega)] at this
      refine ⟨rfl, ?_⟩
      show n % 128 = m % 128
      omega
    | succ i =>
      rw [putS, putS, List.cons_prefix_cons] at hp
      have := congrArg UInt8.toNat hp.1
      rw [ofNat_lt _ (by omega), ofNat_lt _ (by omega)] at this
      omega
  | succ j ih =>
    intro i n m hp
    cases i with
    | zero =>
      rw [putS, putS, List.cons_prefix_cons] at hp
      have := congrArg UInt8.toNat hp.1
      rw [ofNat_lt _ (by omega), ofNat_lt _ (by omega)] at this
      omega
    | succ i =>
      rw [putS, putS, List.cons_prefix_cons] at hp
      have h3 := congrArg UInt8.toNat hp.1
      rw [ofNat_lt _ (by omega), ofNat_lt _ (by omega)] at h3
      obtain ⟨h4, h5⟩ := ih i (n / 128) (m / 128) hp.2
      refine ⟨by omega, ?_⟩
      have hq : (0 : Int) < (2 ^ (7 * (j + 1)) : Nat) := by have := Nat.two_pow_pos (7 * (j + 1)); omega
      have he : ((2 ^ (7 * (j + 1 + 1)) : Nat) : Int) = 128 * (2 ^ (7 * (j + 1)) : Nat) := by
        rw [show 7 * (j + 1 + 1) = 7 + 7 * (j + 1) from by omega, Nat.pow_add]; omega
      rw [he, int_emod_mul n _ hq, int_emod_mul m _ hq, h5]
      omega

theorem putSN_apart (n m : Int) (a1 : -9223372036854775808 ≤ n) (a2 : n ≤ 9223372036854775807) (b1 : -9223372036854775808 ≤ m) (b2 : m ≤ 9223372036854775807) (hp : putSN n <+: putSN m) : n = m := by
  unfold putSN at hp
  obtain ⟨h1, h2⟩ := putS_apart _ _ _ _ hp
  have hsn := sizeS_bd n a1 a2
  have hsm := sizeS_bd m b1 b2
  have hs : sizeS m = sizeS n := by omega
  rw [show sizeS n - 1 + 1 = sizeS n from by omega] at h2
  have f1 : magN n < 2 ^ (7 * sizeS n - 1) := (bitLen_iff 63 (magN n) _ (magN_lt n a1 a2) (by omega)).1 (by unfold sizeS; omega)
  have f2 : magN m < 2 ^ (7 * sizeS n - 1) := (bitLen_iff 63 (magN m) _ (magN_lt m b1 b2) (by omega)).1 (by rw [← hs]; unfold sizeS; omega)
  have g1 := (fits_iff n _).2 f1
  have g2 := (fits_iff m _).2 f2
  have hpow : ((2 ^ (7 * sizeS n) : Nat) : Int) = 2 * (2 ^ (7 * sizeS n - 1) : Nat) := by
    obtain ⟨t, ht⟩ : ∃ t, 7 * sizeS n = t + 1 := ⟨_, (Nat.succ_pred_eq_of_pos (by omega)).symm⟩
    rw [ht, Nat.add_sub_cancel, Nat.pow_succ]; omega
  rw [hpow] at h2
  generalize ((2 ^ (7 * sizeS n - 1) : Nat) : Int) = P at *
  have e1 := Int.emod_add_mul_ediv n (2 * P)
  have e2 := Int.emod_add_mul_ediv m (2 * P)
  have hd : n - m = 2 * P * (n / (2 * P) - m / (2 * P)) := by rw [Int.mul_sub]; omega
  have hlt : -(2 * P) < n - m ∧ n - m < 2 * P := by omega
  generalize n / (2 * P) - m / (2 * P) = d at *
  have hd0 : d = 0 := by
    rcases Int.lt_trichotomy d 0 with h | h | h
    · have : 2 * P * d ≤ 2 * P * (-1) := Int.mul_le_mul_of_nonneg_left (by omega) (by omega)
      omega
    · exact h
    · have : 2 * P * 1 ≤ 2 * P * d := Int.mul_le_mul_of_nonneg_left (by omega) (by omega)
      omega
  rw [hd0] at hd
  omega
end Go.Proofs.Ytnjaookmgcfoiaa
