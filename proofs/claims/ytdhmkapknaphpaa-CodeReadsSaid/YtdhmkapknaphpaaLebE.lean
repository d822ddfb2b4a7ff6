/-
  leb: the numbers with a sign; a row of bytes of the call's own.
-/
import Derived.Test.YtdhmkapknaphpaaLeb
import Derived.Lib.Small
import Derived.Lib.Walk
namespace Go.Proofs.Ytdhmkapknaphpaa
open Go.RowKit
set_option linter.unusedVariables false

theorem extend_wide (v : Nat) (hv : v < 2 ^ 64) (n : Nat) (hn : n = 64) : wrap64 (v : Int) = extendL v n := by
  subst hn
  unfold wrap64 extendL
  rw [Nat.mod_eq_of_lt hv]
  simp only [Nat.reducePow, Nat.reduceSub] at hv ⊢
  split <;> omega

theorem extend_less (v s n : Nat) (hs : s + n = 64) (hn : 1 ≤ n) : wrap64 (IntKind.u64.wrap ((v : Int) * 2 ^ s)) / 2 ^ s = extendL v n := by
  have h1 : IntKind.u64.wrap ((v : Int) * 2 ^ s) = ((v % 2 ^ n * 2 ^ s : Nat) : Int) := by
    rw [IntKind.wrap_u64]
    have h64 : (18446744073709551616 : Nat) = 2 ^ n * 2 ^ s := by rw [← Nat.pow_add, show n + s = 64 from by omega]
    have : (v : Int) * 2 ^ s % 18446744073709551616 = ((v * 2 ^ s % 18446744073709551616 : Nat) : Int) := by
      rw [Int.natCast_emod, Int.natCast_mul, Int.natCast_pow]; rfl
    rw [this, h64, Nat.mul_mod_mul_right]
  have hlt : v % 2 ^ n < 2 ^ n := Nat.mod_lt _ (Nat.two_pow_pos n)
  rw [h1]
  unfold extendL
  generalize v % 2 ^ n = m at *
  have hp : 0 < 2 ^ s := Nat.two_pow_pos s
  have h63 : 2 ^ (n - 1) * 2 ^ s = 9223372036854775808 := by rw [← Nat.pow_add, show n - 1 + s = 63 from by omega]
  have h64 : 2 ^ n * 2 ^ s = 18446744073709551616 := by rw [← Nat.pow_add, show n + s = 64 from by omega]
  have hz : ((2 ^ s : Nat) : Int) = (2 : Int) ^ s := by rw [Int.natCast_pow]; rfl
  rw [← hz]
  have hs0 : ((2 ^ s : Nat) : Int) ≠ 0 := by omega
  split
  · rename_i h
    have : m * 2 ^ s < 9223372036854775808 := by rw [← h63]; exact Nat.mul_lt_mul_of_pos_right h hp
    rw [IntWalk.wrap64_in _ (by omega), Int.natCast_mul, Int.mul_ediv_cancel _ hs0]
  · rename_i h
    have hge : 9223372036854775808 ≤ m * 2 ^ s := by rw [← h63]; exact Nat.mul_le_mul_right _ (by omega)
    have hl2 : m * 2 ^ s < 18446744073709551616 := by rw [← h64]; exact Nat.mul_lt_mul_of_pos_right hlt hp
    have : wrap64 ((m * 2 ^ s : Nat) : Int) = ((m : Int) - (2 ^ n : Nat)) * (2 ^ s : Nat) := by
      unfold wrap64
      rw [Int.sub_mul, ← Int.natCast_mul, ← Int.natCast_mul, h64]
      omega
    rw [this, Int.mul_ediv_cancel _ hs0]

set_option maxHeartbeats 400000 in
theorem extend_any (v : Nat) (n : Int) (w : World) (hv : Hid (v < 2 ^ 64)) (h0 : 1 ≤ n) (h1 : n ≤ 64) :
    Calls Try.prog 99 #[.int .u64 v, .int .i64 n] w fun e w' => e = .returned (.int .i64 (extendL v n.toNat)) ∧ w = w' := by
  go_enter Try.func99, Try.ntmps99
  go_wp2
  · go_ret
    exact ⟨ret_int (extend_wide v hv.out _ (by omega)), rfl⟩
  · go_ret
    exact ⟨ret_int (extend_less v _ _ (by omega) (by omega)), rfl⟩

/-- type facts -/
theorem u8_elem : IsElem Try.prog 37 5 1 1 := IsElem.mk' Try.underlying37 (z := .int .u8 0) (by kernel_rfl) rfl (by omega)

/-- a row of bytes of the call's own -/
def OwnB (w : World) (base : Nat) (v : Value) (bs : List UInt8) : Prop := w.ownsRow base 5 1 v bs.length (bs.map B)

theorem OwnB.push {w : World} {base : Nat} {v : Value} {bs : List UInt8} {b : UInt8} (h : w.ownsRow base 5 1 v (bs.length + 1) (bs.map B ++ [B b])) : OwnB w base v (bs ++ [b]) :=
  own_cast h (by simp) (by simp)
theorem OwnB.cast {w : World} {base : Nat} {v : Value} {bs bs' : List UInt8} (h : OwnB w base v bs) (e : bs = bs') : OwnB w base v bs' := e ▸ h

theorem want_of (x k : Nat) (hk : k ≤ 6) : (((x : Int) != (2 ^ k - 1) % 256) = true ↔ x ≠ 2 ^ k - 1) := by
  have : ∀ k : Fin 7, ((2 : Int) ^ k.val - 1) % 256 = ((2 ^ k.val - 1 : Nat) : Int) := by decide
  rw [this ⟨k, by omega⟩]
  simp [bne_iff_ne]
  omega

set_option maxHeartbeats 400000 in
theorem signed_any (A : Option Addr) (cap : Nat) (bs : List UInt8) (n : Int) (w : World) (hr : Hid (Reads w w.heap.size 1 A bs.length (bs.map B))) (hl : bs.length ≤ 70000)
    (v : Int) (size e : Nat) (hR : Hid (signedL bs n = (v, size, e))) :
    Calls Try.prog 96 #[.slice A bs.length cap, .int .i64 n] w fun e' w' => e' = .returned (.tuple #[.int .i64 v, .int .i64 size, .int .i64 e]) ∧ w = w' := by
  rcases rawL_cases bs n with ⟨v', size', c, h, h0, h1, h2, h3, h4, h5, h6⟩ | ⟨e', h, he⟩
  · have hR' := hR.out
    unfold signedL at hR'
    rw [h] at hR'
    simp only [ne_eq, not_true_eq_false, if_false] at hR'
    have H := Lib.hid h; clear h
    have H6 := Lib.hid h6; clear h6
    obtain ⟨x, k, hx⟩ : ∃ x k, beyondL c size' n.toNat = (x, k) := ⟨_, _, rfl⟩
    obtain ⟨mn, hmn⟩ : ∃ mn : Int, min (7 * (size' : Int)) n = mn := ⟨_, rfl⟩
    have hmn2 : min (7 * size') n.toNat = mn.toNat := by omega
    have hk6 : k ≤ 6 := by
      have := congrArg Prod.snd hx
      unfold beyondL at this
      split at this <;> simp at this <;> omega
    rw [hx, hmn2] at hR'
    have hmn3 : 1 ≤ mn := by omega
    have hmn4 : mn ≤ 64 := by omega
    have HX := Lib.hid hx; clear hx
    have HM := hide hmn; clear hmn hmn2
    obtain ⟨out, ho⟩ : ∃ out, extendL v' mn.toNat = out := ⟨_, rfl⟩
    have hE := extend_any v' mn w H6 hmn3 hmn4
    rw [ho] at hE hR'
    clear ho
    have HE := hide hE; clear hE
    go_enter Try.func96, Try.ntmps96
    go_wp2_with fail
    refine (raw_eq A cap bs n w hr hl _ _ _ _ H).mono ?_; rintro e w' ⟨rfl, rfl⟩
    go_wp2_with fail
    rw [HM.out]
    refine HE.out.mono ?_; rintro e w' ⟨rfl, rfl⟩
    have HR := hide hR'; clear hR'
    by_cases hneg : out < 0
    · by_cases hk : 0 < k
      · go_wp2_with fail
        refine (beyond_any c size' n x k HX _ h4 h0 h1 h2 h5 h3).mono ?_; rintro e w' ⟨rfl, rfl⟩
        go_wp2_with fail
        · have ht := (want_of x k hk6).1 (by assumption)
          have hR' := HR.out
          rw [if_pos hneg, if_pos ⟨hk, ht⟩] at hR'
          injection hR' with e1 e2
          injection e2 with e2 e3
          subst e1 e2 e3
          go_ret3
          exact ⟨rfl, rfl⟩
        · have ht : ¬ x ≠ 2 ^ k - 1 := fun h => by have := (want_of x k hk6).2 h; simp_all
          have hR' := HR.out
          rw [if_pos hneg, if_neg (fun h => ht h.2)] at hR'
          injection hR' with e1 e2
          injection e2 with e2 e3
          subst e1 e2 e3
          go_ret3
          exact ⟨rfl, rfl⟩
      · go_wp2_with fail
        refine (beyond_any c size' n x k HX _ h4 h0 h1 h2 h5 h3).mono ?_; rintro e w' ⟨rfl, rfl⟩
        go_wp2_with fail
        have hR' := HR.out
        rw [if_neg (fun h => hk h.1)] at hR'
        injection hR' with e1 e2
        injection e2 with e2 e3
        subst e1 e2 e3
        go_ret3
        exact ⟨rfl, rfl⟩
    · by_cases hk : 0 < k
      · go_wp2_with fail
        refine (beyond_any c size' n x k HX _ h4 h0 h1 h2 h5 h3).mono ?_; rintro e w' ⟨rfl, rfl⟩
        go_wp2_with fail
        · have ht : ((x : Int) != 0) = true := by assumption
          have ht : x ≠ 0 := by simpa [bne_iff_ne] using ht
          have hR' := HR.out
          rw [if_neg (show ¬ out < 0 from by omega), if_pos ⟨hk, ht⟩] at hR'
          injection hR' with e1 e2
          injection e2 with e2 e3
          subst e1 e2 e3
          go_ret3
          exact ⟨rfl, rfl⟩
        · have ht : ((x : Int) != 0) = false := by assumption
          have ht : x = 0 := by simpa using ht
          have hR' := HR.out
          rw [if_neg (show ¬ out < 0 from by omega), if_neg (fun h => h.2 ht)] at hR'
          injection hR' with e1 e2
          injection e2 with e2 e3
          subst e1 e2 e3
          go_ret3
          exact ⟨rfl, rfl⟩
      · go_wp2_with fail
        refine (beyond_any c size' n x k HX _ h4 h0 h1 h2 h5 h3).mono ?_; rintro e w' ⟨rfl, rfl⟩
        go_wp2_with fail
        have hR' := HR.out
        rw [if_neg (fun h => hk h.1)] at hR'
        injection hR' with e1 e2
        injection e2 with e2 e3
        subst e1 e2 e3
        go_ret3
        exact ⟨rfl, rfl⟩
  · have hR' := hR.out
    unfold signedL at hR'
    rw [h] at hR'
    have he1 : 0 < e' := by omega
    simp only [ne_eq, show ¬ e' = 0 from by omega, not_false_eq_true, if_true] at hR'
    injection hR' with e1 e2
    injection e2 with e2 e3
    subst e1 e2 e3
    have H := Lib.hid h; clear h he
    go_enter Try.func96, Try.ntmps96
    go_wp2_with fail
    refine (raw_eq A cap bs n w hr hl _ _ _ _ H).mono ?_; rintro e w' ⟨rfl, rfl⟩
    go_wp2_with fail
    go_ret3
    exact ⟨rfl, rfl⟩
end Go.Proofs.Ytdhmkapknaphpaa
