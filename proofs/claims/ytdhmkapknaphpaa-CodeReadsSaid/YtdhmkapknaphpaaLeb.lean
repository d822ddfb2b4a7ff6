/-
  leb: each function's contract.
-/
import Derived.Test.YtdhmkapknaphpaaRows
import Derived.Test.YtdhmkapknaphpaaMem
import Derived.Test.YtdhmkapknaphpaaLebPure
import Derived.Outline
namespace Go.Proofs.Ytdhmkapknaphpaa
open Go.RowKit
set_option linter.unusedVariables false

set_option maxHeartbeats 400000 in
theorem count_any (n : Int) (c : Nat) (hc : Hid (cntN n.toNat = c)) (w : World) (h0 : 0 ≤ n) (h1 : n ≤ 1000000) :
    Calls Try.prog 75 #[.int .i64 n] w fun e w' => e = .returned (.int .i64 (c : Int)) ∧ w = w' := by
  go_enter Try.func75, Try.ntmps75
  go_wp2
  go_ret
  refine ⟨ret_int ?_, rfl⟩
  rw [← hc.out]; unfold cntN; omega

theorem or_step (acc c k : Nat) (ha : acc < 2 ^ 64) (hc : c ≤ 255) :
    bits .or .u64 (acc : Int) (IntKind.u64.wrap (IntKind.u64.wrap (bits .and .u8 (c : Int) 127) * 2 ^ (7 * k))) = ((acc ||| (c % 128 * 2 ^ (7 * k) % 2 ^ 64) : Nat) : Int) := by
  have h1 : bits .and .u8 (c : Int) 127 = ((c % 128 : Nat) : Int) := by
    have := u8_and_nat c 127 (by omega) (by omega)
    rw [and127] at this
    exact this
  have h0 : ((c % 128 : Nat) : Int) % 18446744073709551616 = ((c % 128 : Nat) : Int) := Int.emod_eq_of_lt (by omega) (by omega)
  rw [h1, IntKind.wrap_u64, IntKind.wrap_u64, h0]
  have h2 : ((c % 128 : Nat) : Int) * 2 ^ (7 * k) % 18446744073709551616 = ((c % 128 * 2 ^ (7 * k) % 18446744073709551616 : Nat) : Int) := by
    generalize c % 128 = d
    rw [Int.natCast_emod, Int.natCast_mul, Int.natCast_pow]; rfl
  simp only [Nat.reducePow] at ha ⊢
  rw [h2, u64_or_nat _ _ ha (Nat.mod_lt _ (by omega))]

/-- one round of raw, each way -/
theorem rawGo_bad {cnt k acc : Nat} {bs : List UInt8} {c : UInt8} (hc : bs[k]? = some c) (h1 : k + 1 = cnt) (h2 : (128 : Int) ≤ (c.toNat : Int)) : rawGo cnt (bs.drop k) k acc = (0, 0, 0, 4) := by
  obtain ⟨hk, hv⟩ := List.getElem?_eq_some_iff.1 hc
  rw [List.drop_eq_getElem_cons hk, hv, rawGo, if_pos ⟨h1, by omega⟩]
theorem rawGo_end {cnt k acc : Nat} {bs : List UInt8} {c : UInt8} (hc : bs[k]? = some c) (h2 : (c.toNat : Int) < 128) : rawGo cnt (bs.drop k) k acc = (acc ||| (c.toNat % 128 * 2 ^ (7 * k) % 2 ^ 64), k + 1, c.toNat, 0) := by
  obtain ⟨hk, hv⟩ := List.getElem?_eq_some_iff.1 hc
  rw [List.drop_eq_getElem_cons hk, hv, rawGo, if_neg (by omega), if_pos (by omega)]
theorem rawGo_on {cnt k acc : Nat} {bs : List UInt8} {c : UInt8} (hc : bs[k]? = some c) (h1 : k + 1 < cnt) (h2 : (128 : Int) ≤ (c.toNat : Int)) : rawGo cnt (bs.drop k) k acc = rawGo cnt (bs.drop (k + 1)) (k + 1) (acc ||| (c.toNat % 128 * 2 ^ (7 * k) % 2 ^ 64)) := by
  obtain ⟨hk, hv⟩ := List.getElem?_eq_some_iff.1 hc
  rw [List.drop_eq_getElem_cons hk, hv, rawGo, if_neg (by omega), if_neg (by omega)]
theorem rawGo_nil {cnt k acc : Nat} {bs : List UInt8} (h : bs.length ≤ k) : rawGo cnt (bs.drop k) k acc = (0, 0, 0, 3) := by
  rw [List.drop_eq_nil_of_le h, rawGo]

set_option maxHeartbeats 400000 in
set_option maxRecDepth 100000 in
theorem raw_any (A : Option Addr) (cap : Nat) (bs : List UInt8) (n : Int) (w : World) (h0 : 1 ≤ n) (h1 : n ≤ 64) (hr : Reads w w.heap.size 1 A bs.length (bs.map B)) (hl : bs.length ≤ 70000):
    Calls Try.prog 60 #[.slice A bs.length cap, .int .i64 n] w fun e w' => e = .returned (.tuple #[.int .u64 (rawL bs n).1, .int .i64 (rawL bs n).2.1, .int .u8 (rawL bs n).2.2.1, .int .i64 (rawL bs n).2.2.2]) ∧ w = w' := by
  have H := Lib.hid hr; clear hr
  have hR : rawL bs n = rawGo (cntN n.toNat) bs 0 0 := by unfold rawL; rw [if_neg (by omega)]
  obtain ⟨cnt, hcnt⟩ : ∃ c, cntN n.toNat = c := ⟨_, rfl⟩
  have hc1 : 1 ≤ cnt := by rw [← hcnt]; unfold cntN; omega
  have hc2 : cnt ≤ 10 := by rw [← hcnt]; unfold cntN; omega
  rw [hR, hcnt]
  have HC := Lib.hid hcnt; clear hcnt hR
  go_enter Try.func60, Try.ntmps60
  go_wp2_with fail
  go_loop [8, 20] (fun v i => ∃ k acc : Nat, k ≤ bs.length ∧ i = .int .i64 k ∧ v = .int .u64 acc ∧ Hid (acc < 2 ^ 64) ∧ k < cnt ∧ Hid (rawGo cnt bs 0 0 = rawGo cnt (bs.drop k) k acc)) (fun _ i => bs.length - (intOf i).toNat)
  case atStart => exact ⟨0, 0, Nat.zero_le _, rfl, rfl, by show (0:Nat) < 2^64; omega, by omega, rfl⟩
  case round =>
    obtain ⟨k, acc, hk, rfl, rfl, HA, hkc, HG⟩ := hrel
    by_cases hlt : k < bs.length
    · obtain ⟨ad, c, rfl, Hc, hc, c0, c1⟩ := H.out.byte hlt
      have hor := Lib.hid (or_step acc c.toNat k HA.out (by omega))
      by_cases hlast : k + 1 = cnt
      · subst hlast
        go_wp2_with (go_at_call 75; refine (count_any _ _ HC _ (by omega) (by omega)).mono ?_; rintro e w' ⟨rfl, rfl⟩)
        · refine bodyPost_ret (results_tmp4 rfl _ _ _) rfl ⟨?_, rfl⟩
          rw [HG.out, rawGo_bad Hc.out rfl (by assumption)]
          rfl
        · refine bodyPost_ret (results_tmp4 rfl _ _ _) rfl ⟨?_, rfl⟩
          rw [HG.out, rawGo_end Hc.out (by assumption)]
          exact tup4 (int_congr hor.out) rfl rfl rfl
      · have hlt2 : k + 1 < cnt := by omega
        clear hlast
        go_wp2_with (go_at_call 75; refine (count_any _ _ HC _ (by omega) (by omega)).mono ?_; rintro e w' ⟨rfl, rfl⟩)
        · refine bodyPost_ret (results_tmp4 rfl _ _ _) rfl ⟨?_, rfl⟩
          rw [HG.out, rawGo_end Hc.out (by assumption)]
          exact tup4 (int_congr hor.out) rfl rfl rfl
        · go_round
          case rel => exact ⟨k + 1, _, by omega, by go_num, int_congr hor.out, Nat.or_lt_two_pow HA.out (Nat.mod_lt _ (by omega)), hlt2, HG.out.trans (rawGo_on Hc.out hlt2 (by assumption))⟩
          case measure => simp [intOf]; omega
    · go_wp2
      refine bodyPost_ret (results_tmp4 rfl _ _ _) rfl ⟨?_, rfl⟩
      rw [HG.out, rawGo_nil (by omega)]
      rfl

set_option maxHeartbeats 400000 in
theorem raw_arg (A : Option Addr) (l cap : Nat) (bs : List UInt8) (n : Int) (w : World) (h0 : n < 1 ∨ 64 < n) :
    Calls Try.prog 60 #[.slice A l cap, .int .i64 n] w fun e w' => e = .returned (.tuple #[.int .u64 (rawL bs n).1, .int .i64 (rawL bs n).2.1, .int .u8 (rawL bs n).2.2.1, .int .i64 (rawL bs n).2.2.2]) ∧ w = w' := by
  have hR : rawL bs n = (0, 0, 0, 1) := by unfold rawL; rw [if_pos h0]
  rw [hR]
  clear hR
  rcases h0 with h0 | h0
  · go_enter Try.func60, Try.ntmps60
    go_wp2
    exact bodyPost_ret (results_tmp4 rfl _ _ _) rfl ⟨rfl, rfl⟩
  · by_cases h1 : n < 1
    · omega
    · go_enter Try.func60, Try.ntmps60
      go_wp2
      exact bodyPost_ret (results_tmp4 rfl _ _ _) rfl ⟨rfl, rfl⟩

theorem raw_eq (A : Option Addr) (cap : Nat) (bs : List UInt8) (n : Int) (w : World) (hr : Hid (Reads w w.heap.size 1 A bs.length (bs.map B))) (hl : bs.length ≤ 70000)
    (v size c e : Nat) (hR : Hid (rawL bs n = (v, size, c, e))) :
    Calls Try.prog 60 #[.slice A bs.length cap, .int .i64 n] w fun e' w' => e' = .returned (.tuple #[.int .u64 v, .int .i64 size, .int .u8 c, .int .i64 e]) ∧ w = w' := by
  by_cases h : n < 1 ∨ 64 < n
  · have := raw_arg A bs.length cap bs n w h
    rw [hR.out] at this
    exact this
  · have := raw_any A cap bs n w (by omega) (by omega) hr.out hl
    rw [hR.out] at this
    exact this

theorem and_u8_127 (c : Nat) (hc : c ≤ 127) : bits .and .u8 (c : Int) 127 = (c : Int) := by
  have := u8_and_nat c 127 (by omega) (by omega)
  rw [and127, Nat.mod_eq_of_lt (by omega)] at this
  exact this

set_option maxHeartbeats 400000 in
theorem beyond_any (c size : Nat) (n : Int) (x k : Nat) (hx : Hid (beyondL c size n.toNat = (x, k))) (w : World) (hc : c ≤ 127) (h0 : 1 ≤ n) (h1 : n ≤ 64) (h2 : 1 ≤ size) (h3 : size ≤ 10) (h4 : 7 * (size : Int) < n + 7) :
    Calls Try.prog 61 #[.int .u8 c, .int .i64 size, .int .i64 n] w fun e w' => e = .returned (.tuple #[.int .u8 x, .int .i64 k]) ∧ w = w' := by
  have hb := hide (and_u8_127 c hc)
  go_enter Try.func61, Try.ntmps61
  go_wp2
  · go_ret2
    have h := hx.out
    unfold beyondL at h
    rw [if_pos (by omega)] at h
    injection h with e1 e2
    subst e1 e2
    exact ⟨rfl, rfl⟩
  · go_ret2
    have h := hx.out
    unfold beyondL at h
    rw [if_neg (by omega)] at h
    injection h with e1 e2
    subst e1 e2
    refine ⟨tup2 (int_congr ?_) (int_congr (by omega)), rfl⟩
    rw [hb.out, Nat.mod_eq_of_lt (by omega)]
    rw [show (n - 7 * ((size : Int) - 1)).toNat = n.toNat + 7 - 7 * size from by omega]
    rw [Int.natCast_ediv, Int.natCast_pow]
    rfl

set_option maxHeartbeats 400000 in
theorem unsigned_any (A : Option Addr) (cap : Nat) (bs : List UInt8) (n : Int) (w : World) (hr : Hid (Reads w w.heap.size 1 A bs.length (bs.map B))) (hl : bs.length ≤ 70000)
    (v size e : Nat) (hR : Hid (unsignedL bs n = (v, size, e))) :
    Calls Try.prog 51 #[.slice A bs.length cap, .int .i64 n] w fun e' w' => e' = .returned (.tuple #[.int .u64 v, .int .i64 size, .int .i64 e]) ∧ w = w' := by
  rcases rawL_cases bs n with ⟨v', size', c, h, h0, h1, h2, h3, h4, h5, h6⟩ | ⟨e', h, he⟩
  · have hR' := hR.out
    unfold unsignedL at hR'
    rw [h] at hR'
    simp only [ne_eq, not_true_eq_false, if_false] at hR'
    have H := Lib.hid h; clear h h6
    obtain ⟨x, k, hx⟩ : ∃ x k, beyondL c size' n.toNat = (x, k) := ⟨_, _, rfl⟩
    rw [hx] at hR'
    have HX := Lib.hid hx; clear hx
    by_cases hx0 : x = 0
    · subst hx0
      rw [if_neg (by simp)] at hR'
      injection hR' with e1 e2
      injection e2 with e2 e3
      subst e1 e2 e3
      go_enter Try.func51, Try.ntmps51
      go_wp2_with fail
      refine (raw_eq A cap bs n w hr hl _ _ _ _ H).mono ?_; rintro e w' ⟨rfl, rfl⟩
      go_wp2_with fail
      refine (beyond_any c size' n 0 k HX w h4 h0 h1 h2 h5 h3).mono ?_; rintro e w' ⟨rfl, rfl⟩
      go_wp2_with fail
      go_ret3
      exact ⟨rfl, rfl⟩
    · rw [if_pos hx0] at hR'
      injection hR' with e1 e2
      injection e2 with e2 e3
      subst e1 e2 e3
      have hx1 : 0 < x := by omega
      clear hx0
      go_enter Try.func51, Try.ntmps51
      go_wp2_with fail
      refine (raw_eq A cap bs n w hr hl _ _ _ _ H).mono ?_; rintro e w' ⟨rfl, rfl⟩
      go_wp2_with fail
      refine (beyond_any c size' n x k HX w h4 h0 h1 h2 h5 h3).mono ?_; rintro e w' ⟨rfl, rfl⟩
      go_wp2_with fail
      go_ret3
      exact ⟨rfl, rfl⟩
  · have hR' := hR.out
    unfold unsignedL at hR'
    rw [h] at hR'
    have he1 : 0 < e' := by omega
    simp only [ne_eq, show ¬ e' = 0 from by omega, not_false_eq_true, if_true] at hR'
    injection hR' with e1 e2
    injection e2 with e2 e3
    subst e1 e2 e3
    have H := Lib.hid h; clear h he
    go_enter Try.func51, Try.ntmps51
    go_wp2_with fail
    refine (raw_eq A cap bs n w hr hl _ _ _ _ H).mono ?_; rintro e w' ⟨rfl, rfl⟩
    go_wp2_with fail
    go_ret3
    exact ⟨rfl, rfl⟩

end Go.Proofs.Ytdhmkapknaphpaa
