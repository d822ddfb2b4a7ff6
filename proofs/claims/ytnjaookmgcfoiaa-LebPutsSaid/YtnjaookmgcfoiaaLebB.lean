/-
  leb: each function's contract, the second half.
-/
import Derived.Test.YtnjaookmgcfoiaaLeb
import Derived.Test.YtnjaookmgcfoiaaShelf
namespace Go.Proofs.Ytnjaookmgcfoiaa
open Go.RowKit
set_option linter.unusedVariables false

theorem extend_wide (v : Nat) (hv : v < 2 ^ 64) (n : Nat) (hn : n = 64) : wrap64 (v : Int) = extendL v n := by
  subst hn
  unfold wrap64 extendL
  rw [Nat.mod_eq_of_lt hv]
  simp only [Nat.reducePow, Nat.reduceSub] at hv ⊢
  split <;> omega

theorem extend_less (v s n : Nat) (hs : s + n = 64) (hn : 1 ≤ n) : wrap64 (IntKind.u64.wrap ((v : Int) * 2 ^ s)) / 2 ^ s = extendL v n := by
  have h1 : IntKind.u64.wrap ((v : Int) * 2 ^ s) = ((v % 2 ^ n * 2 ^ s : Nat) : Int) := by
    rw [IntKind.wrap_u64]
    have h64 : (18446744073709551616 : Nat) = 2 ^ n * 2 ^ s := by rw [← Nat.pow_add, show n + s = 64 from by omega]
    have : (v : Int) * 2 ^ s % 18446744073709551616 = ((v * 2 ^ s % 18446744073709551616 : Nat) : Int) := by
      rw [Int.natCast_emod, Int.natCast_mul, Int.natCast_pow]; rfl
    rw [this, h64, Nat.mul_mod_mul_right]
  have hlt : v % 2 ^ n < 2 ^ n := Nat.mod_lt _ (Nat.two_pow_pos n)
  rw [h1]
  unfold extendL
  generalize v % 2 ^ n = m at *
  have hp : 0 < 2 ^ s := Nat.two_pow_pos s
  have h63 : 2 ^ (n - 1) * 2 ^ s = 9223372036854775808 := by rw [← Nat.pow_add, show n - 1 + s = 63 from by omega]
  have h64 : 2 ^ n * 2 ^ s = 18446744073709551616 := by rw [← Nat.pow_add, show n + s = 64 from by omega]
  have hz : ((2 ^ s : Nat) : Int) = (2 : Int) ^ s := by rw [Int.natCast_pow]; rfl
  rw [← hz]
  have hs0 : ((2 ^ s : Nat) : Int) ≠ 0 := by omega
  split
  · rename_i h
    have : m * 2 ^ s < 9223372036854775808 := by rw [← h63]; exact Nat.mul_lt_mul_of_pos_right h hp
    rw [IntWalk.wrap64_in _ (by omega), Int.natCast_mul, Int.mul_ediv_cancel _ hs0]
  · rename_i h
    have hge : 9223372036854775808 ≤ m * 2 ^ s := by rw [← h63]; exact Nat.mul_le_mul_right _ (by omega)
    have hl2 : m * 2 ^ s < 18446744073709551616 := by rw [← h64]; exact Nat.mul_lt_mul_of_pos_right hlt hp
    have : wrap64 ((m * 2 ^ s : Nat) : Int) = ((m : Int) - (2 ^ n : Nat)) * (2 ^ s : Nat) := by
      unfold wrap64
      rw [Int.sub_mul, ← Int.natCast_mul, ← Int.natCast_mul, h64]
      omega
    rw [this, Int.mul_ediv_cancel _ hs0]

set_option maxHeartbeats 400000 in
theorem extend_any (v : Nat) (n : Int) (w : World) (hv : Hid (v < 2 ^ 64)) (h0 : 1 ≤ n) (h1 : n ≤ 64) :
    Calls Try.prog 24 #[.int .u64 v, .int .i64 n] w fun e w' => e = .returned (.int .i64 (extendL v n.toNat)) ∧ w = w' := by
  go_enter Try.func24, Try.ntmps24
  go_wp2
  · go_ret
    exact ⟨ret_int (extend_wide v hv.out _ (by omega)), rfl⟩
  · go_ret
    exact ⟨ret_int (extend_less v _ _ (by omega) (by omega)), rfl⟩

set_option maxHeartbeats 400000 in
theorem size_any (n : Nat) (w : World) (hn : Hid (n < 2 ^ 64)) :
    Calls Try.prog 19 #[.int .u64 n] w fun e w' => e = .returned (.int .i64 (sizeL n)) ∧ w = w' := by
  obtain ⟨l, hl⟩ : ∃ l, Lib.bitLen n = l := ⟨_, rfl⟩
  have hl2 : l ≤ 64 := by rw [← hl]; exact Lib.bitLen_le n 64 (by omega) hn.out
  have HL := hide hl; clear hl
  have hc := Try.bits_Len64 (n : Int) w (by omega) (by have := hn.out; simp only [Nat.reducePow] at this; omega)
  rw [show (n : Int).toNat = n from rfl, HL.out] at hc
  have HC := hide hc; clear hc
  obtain ⟨k, hk⟩ : ∃ k, cntN l = k := ⟨_, rfl⟩
  have hk2 : k ≤ 10 := by rw [← hk]; unfold cntN; omega
  have HK : Hid (cntN (l : Int).toNat = k) := hk
  have HS : Hid (sizeL n = max k 1) := by show sizeL n = _; unfold sizeL; rw [HL.out, hk]
  clear hk
  go_enter Try.func19, Try.ntmps19
  go_wp2_with fail
  refine HC.out.mono ?_; rintro e w' ⟨rfl, rfl⟩
  go_wp2_with fail
  refine (count_any _ k HK _ (by omega) (by omega)).mono ?_; rintro e w' ⟨rfl, rfl⟩
  go_wp2_with fail
  all_goals go_ret
  all_goals refine ⟨ret_int ?_, rfl⟩
  all_goals (rw [HS.out]; omega)

theorem mag_neg (n : Int) (h : n < 0) : magN n = (-n - 1).toNat := by unfold magN; rw [if_pos h]
theorem mag_pos (n : Int) (h : ¬ n < 0) : magN n = n.toNat := by unfold magN; rw [if_neg h]

theorem xor_minus_one (n : Int) (h1 : -9223372036854775808 ≤ n) (h2 : n ≤ 9223372036854775807) : bits .xor .i64 (-1) n = -n - 1 := by
  show IntKind.i64.wrap ((BitVec.ofInt 64 (-1) ^^^ BitVec.ofInt 64 n).toNat : Int) = _
  have e : BitVec.ofInt 64 (-1) = BitVec.allOnes 64 := by decide
  rw [e, BitVec.allOnes_xor, BitVec.toNat_not, BitVec.toNat_ofInt, IntKind.wrap_i64]
  simp only [Nat.reducePow]
  omega

set_option maxHeartbeats 400000 in
theorem sizeSigned_any (n : Int) (w : World) (h1 : -9223372036854775808 ≤ n) (h2 : n ≤ 9223372036854775807) :
    Calls Try.prog 20 #[.int .i64 n] w fun e w' => e = .returned (.int .i64 (sizeS n)) ∧ w = w' := by
  obtain ⟨l, hl⟩ : ∃ l, Lib.bitLen (magN n) = l := ⟨_, rfl⟩
  have hl2 : l ≤ 63 := by rw [← hl]; exact Lib.bitLen_le _ 63 (by omega) (magN_lt n h1 h2)
  have hm := magN_lt n h1 h2
  simp only [Nat.reducePow] at hm
  have hc := Try.bits_Len64 (magN n : Int) w (by omega) (by omega)
  rw [show ((magN n : Nat) : Int).toNat = magN n from rfl, hl] at hc
  obtain ⟨k, hk⟩ : ∃ k, cntN (l + 1) = k := ⟨_, rfl⟩
  have hk2 : k ≤ 10 := by rw [← hk]; unfold cntN; omega
  have HK : Hid (cntN ((l : Int) + 1).toNat = k) := by show cntN _ = k; rw [← hk]; congr 1
  have HS : Hid (sizeS n = k) := by show sizeS n = _; unfold sizeS; rw [hl, ← hk]; rfl
  clear hk hl
  by_cases h0 : n < 0
  · rw [mag_neg n h0, show (((-n - 1).toNat : Nat) : Int) = -n - 1 from by omega] at hc
    have HC := hide hc; clear hc hm
    go_enter Try.func20, Try.ntmps20
    have hx : IntKind.u64.wrap (bits .xor .i64 (-1) n) = -n - 1 := by
      rw [xor_minus_one n h1 h2, IntKind.wrap_u64]; omega
    have HX := hide hx; clear hx
    go_wp2_with fail
    rw [HX.out]
    refine HC.out.mono ?_; rintro e w' ⟨rfl, rfl⟩
    go_wp2_with fail
    refine (count_any _ k HK _ (by omega) (by omega)).mono ?_; rintro e w' ⟨rfl, rfl⟩
    go_wp2_with fail
    go_ret
    exact ⟨ret_int (by rw [HS.out]), rfl⟩
  · rw [mag_pos n h0, show ((n.toNat : Nat) : Int) = n from by omega] at hc
    have HC := hide hc; clear hc hm
    go_enter Try.func20, Try.ntmps20
    go_wp2_with fail
    refine HC.out.mono ?_; rintro e w' ⟨rfl, rfl⟩
    go_wp2_with fail
    refine (count_any _ k HK _ (by omega) (by omega)).mono ?_; rintro e w' ⟨rfl, rfl⟩
    go_wp2_with fail
    go_ret
    exact ⟨ret_int (by rw [HS.out]), rfl⟩

theorem byte_cont (n : Nat) : bits .or .u8 (bits .and .u8 ((n : Int) % 256) 127) 128 = ((n % 128 + 128 : Nat) : Int) := by
  have h0 : (n : Int) % 256 = ((n % 256 : Nat) : Int) := by omega
  have h1 := u8_and_nat (n % 256) 127 (Nat.mod_lt _ (by omega)) (by omega)
  rw [and127, show n % 256 % 128 = n % 128 from by omega] at h1
  have h2 := u8_or_nat (n % 128) 128 (by omega) (by omega)
  have h3 : n % 128 ||| 128 = n % 128 + 128 := by rw [Nat.or_comm]; exact nat_join 7 128 (n % 128) (by omega) (Nat.mod_lt _ (by omega)) |>.trans (by omega)
  rw [h3] at h2
  rw [h0]
  exact (congrArg (fun z => bits .or .u8 z 128) h1).trans h2

/-- type facts -/
theorem u8_elem : IsElem Try.prog 22 5 1 1 := IsElem.mk' Try.underlying22 (z := .int .u8 0) (by kernel_rfl) rfl (by omega)

/-- a row of bytes of the call's own -/
def OwnB (w : World) (base : Nat) (v : Value) (bs : List UInt8) : Prop := w.ownsRow base 5 1 v bs.length (bs.map B)

theorem OwnB.push {w : World} {base : Nat} {v : Value} {bs : List UInt8} {b : UInt8} (h : w.ownsRow base 5 1 v (bs.length + 1) (bs.map B ++ [B b])) : OwnB w base v (bs ++ [b]) :=
  own_cast h (by simp) (by simp)
theorem OwnB.cast {w : World} {base : Nat} {v : Value} {bs bs' : List UInt8} (h : OwnB w base v bs) (e : bs = bs') : OwnB w base v bs' := e ▸ h

set_option maxHeartbeats 400000 in
set_option maxRecDepth 100000 in
theorem put_any (base : Nat) (v : Value) (xs : List UInt8) (n : Nat) (w : World) (hn : Hid (n < 2 ^ 64)) (hown : Hid (OwnB w base v xs)) (hb : base ≤ w.heap.size) (hl : xs.length ≤ 1000000) :
    Calls Try.prog 12 #[v, .int .u64 n] w fun e w' => ∃ v', e = .returned v' ∧ OwnB w' base v' (xs ++ putN n) ∧ Grows w w' v v' := by
  go_enter Try.func12, Try.ntmps12
  go_wp2_with fail
  go_loopw [0, 1] (fun v1 n1 w1 => ∃ (ys : List UInt8) (m : Nat), n1 = .int .u64 m ∧ Hid (m < 2 ^ 64) ∧ Hid (OwnB w1 base v1 ys) ∧ Hid (ys ++ putN m = xs ++ putN n) ∧ Hid (Grows w w1 v v1) ∧ base ≤ w1.heap.size) (fun _ n1 _ => (intOf n1).toNat)
  case atStart => exact ⟨xs, n, rfl, hn, hown, rfl, Grows.refl _ _, hb⟩
  case round =>
    obtain ⟨ys, m, rfl, hm, ho, he, hg, hb1⟩ := hrel
    have hl1 : ys.length ≤ 1000010 := by
      have h := congrArg List.length he.out
      have := putN_length n
      simp only [List.length_append] at h
      omega
    by_cases hlt : 128 ≤ m
    · have hroom : Room ys.length 1 1 := room_of (by omega) (by omega)
      go_wp2_with (at_builtin; refine wpList_push rfl _ _ rfl base u8_elem _ ys.length (ys.map B) rfl wr _ _ rfl ho.out rfl rfl hroom hb1 ?_; intro v' w' ho' hg')
      go_roundw
      case rel =>
        rw [byte_cont, B_ofNat _ (by omega)] at ho'
        exact ⟨ys ++ [UInt8.ofNat (m % 128 + 128)], m / 128, int_congr (by omega), Nat.lt_of_le_of_lt (Nat.div_le_self _ _) hm.out, OwnB.push ho',
          by show _ = _; rw [← he.out, putN_step m hlt hm.out]; simp, hg.out.trans hg', Nat.le_trans hb1 hg'.by_.size⟩
      case measure => simp [intOf]; omega
    · have hlt' : m < 128 := by omega
      clear hlt
      have hroom : Room ys.length 1 1 := room_of (by omega) (by omega)
      go_wp2_with (at_builtin; refine wpList_push rfl _ _ rfl base u8_elem _ ys.length (ys.map B) rfl wr _ _ rfl ho.out rfl rfl hroom hb1 ?_; intro v' w' ho' hg')
      go_ret
      rw [B_ofNat _ (by omega)] at ho'
      exact ⟨v', rfl, (OwnB.push ho').cast (by rw [← he.out, putN_small m hlt']), hg.out.trans hg'⟩

theorem byte_low (m : Int) : bits .and .u8 (m % 256) 127 = (((m % 128).toNat : Nat) : Int) := by
  have h0 : m % 256 = (((m % 256).toNat : Nat) : Int) := by omega
  have h1 := u8_and_nat (m % 256).toNat 127 (by omega) (by omega)
  rw [and127] at h1
  rw [h0]
  refine h1.trans ?_
  congr 1
  omega
theorem byte_high (m : Int) : bits .or .u8 (bits .and .u8 (m % 256) 127) 128 = (((m % 128).toNat + 128 : Nat) : Int) := by
  rw [byte_low]
  have h2 := u8_or_nat (m % 128).toNat 128 (by omega) (by omega)
  have h3 : (m % 128).toNat ||| 128 = (m % 128).toNat + 128 := by rw [Nat.or_comm]; exact (nat_join 7 128 (m % 128).toNat (by omega) (by omega)).trans (by omega)
  rw [h3] at h2
  exact h2

set_option maxHeartbeats 400000 in
set_option maxRecDepth 100000 in
theorem putSigned_any (base : Nat) (v : Value) (xs : List UInt8) (n : Int) (w : World) (h1 : -9223372036854775808 ≤ n) (h2 : n ≤ 9223372036854775807) (hown : Hid (OwnB w base v xs)) (hb : base ≤ w.heap.size) (hl : xs.length ≤ 1000000) :
    Calls Try.prog 13 #[v, .int .i64 n] w fun e w' => ∃ v', e = .returned v' ∧ OwnB w' base v' (xs ++ putSN n) ∧ Grows w w' v v' := by
  have hsz := sizeS_bd n h1 h2
  obtain ⟨s, hs⟩ : ∃ s, sizeS n = s + 1 := ⟨sizeS n - 1, by omega⟩
  have hP : Hid (putSN n = putS s n) := by show putSN n = _; unfold putSN; rw [hs]; rfl
  have hs9 : s ≤ 9 := by omega
  have hS := sizeSigned_any n w h1 h2
  rw [hs] at hS
  clear hsz hs
  have HS := hide hS; clear hS
  go_enter Try.func13, Try.ntmps13
  go_wp2_with fail
  refine HS.out.mono ?_; rintro e w' ⟨rfl, rfl⟩
  go_wp2_with fail
  go_loopw [0, 1, 5] (fun v1 n1 i1 w1 => ∃ (ys : List UInt8) (m : Int) (k : Nat), n1 = .int .i64 m ∧ i1 = .int .i64 ((k : Int) + 1) ∧ k ≤ 9 ∧ Hid (-9223372036854775808 ≤ m ∧ m ≤ 9223372036854775807) ∧ Hid (OwnB w1 base v1 ys) ∧ Hid (ys ++ putS k m = xs ++ putS s n) ∧ Hid (Grows w w1 v v1) ∧ base ≤ w1.heap.size) (fun _ _ i1 _ => (intOf i1).toNat)
  case atStart => exact ⟨xs, n, s, rfl, by go_num, hs9, ⟨h1, h2⟩, hown, rfl, Grows.refl _ _, hb⟩
  case round =>
    obtain ⟨ys, m, k, rfl, rfl, hk9, hm, ho, he, hg, hb1⟩ := hrel
    have hl1 : ys.length ≤ 1000010 := by
      have h := congrArg List.length he.out
      simp only [List.length_append, putS_length] at h
      omega
    have hroom : Room ys.length 1 1 := room_of (by omega) (by omega)
    clear h1 h2
    obtain _ | k := k
    · go_wp2_with (at_builtin; refine wpList_push rfl _ _ rfl base u8_elem _ ys.length (ys.map B) rfl wr _ _ rfl ho.out rfl rfl hroom hb1 ?_; intro v' w' ho' hg')
      go_ret
      rw [byte_low, B_ofNat _ (by omega)] at ho'
      exact ⟨v', rfl, (OwnB.push ho').cast (by rw [hP.out, ← he.out]; rfl), hg.out.trans hg'⟩
    · go_wp2_with (at_builtin; refine wpList_push rfl _ _ rfl base u8_elem _ ys.length (ys.map B) rfl wr _ _ rfl ho.out rfl rfl hroom hb1 ?_; intro v' w' ho' hg')
      go_roundw
      case rel =>
        rw [byte_high, B_ofNat _ (by omega)] at ho'
        have hm' := hm.out
        exact ⟨ys ++ [UInt8.ofNat ((m % 128).toNat + 128)], m / 128, k, rfl, rfl, by omega, by show _ ∧ _; omega, OwnB.push ho',
          by show _ = _; rw [← he.out, putS]; simp, hg.out.trans hg', Nat.le_trans hb1 hg'.by_.size⟩
      case measure => simp [intOf]; omega

theorem want_of (x k : Nat) (hk : k ≤ 6) : (((x : Int) != (2 ^ k - 1) % 256) = true ↔ x ≠ 2 ^ k - 1) := by
  have : ∀ k : Fin 7, ((2 : Int) ^ k.val - 1) % 256 = ((2 ^ k.val - 1 : Nat) : Int) := by decide
  rw [this ⟨k, by omega⟩]
  simp [bne_iff_ne]
  omega

set_option maxHeartbeats 400000 in
theorem signed_any (A : Option Addr) (cap : Nat) (bs : List UInt8) (n : Int) (w : World) (hr : Hid (Reads w w.heap.size 1 A bs.length (bs.map B))) (hl : bs.length ≤ 70000)
    (v : Int) (size e : Nat) (hR : Hid (signedL bs n = (v, size, e))) :
    Calls Try.prog 15 #[.slice A bs.length cap, .int .i64 n] w fun e' w' => e' = .returned (.tuple #[.int .i64 v, .int .i64 size, .int .i64 e]) ∧ w = w' := by
  rcases rawL_cases bs n with ⟨v', size', c, h, h0, h1, h2, h3, h4, h5, h6⟩ | ⟨e', h, he⟩
  · have hR' := hR.out
    unfold signedL at hR'
    rw [h] at hR'
    simp only [ne_eq, not_true_eq_false, if_false] at hR'
    have H := Lib.hid h; clear h
    have H6 := Lib.hid h6; clear h6
    obtain ⟨x, k, hx⟩ : ∃ x k, beyondL c size' n.toNat = (x, k) := ⟨_, _, rfl⟩
    obtain ⟨mn, hmn⟩ : ∃ mn : Int, min (7 * (size' : Int)) n = mn := ⟨_, rfl⟩
    have hmn2 : min (7 * size') n.toNat = mn.toNat := by omega
    have hk6 : k ≤ 6 := by
      have := congrArg Prod.snd hx
      unfold beyondL at this
      split at this <;> simp at this <;> omega
    rw [hx, hmn2] at hR'
    have hmn3 : 1 ≤ mn := by omega
    have hmn4 : mn ≤ 64 := by omega
    have HX := Lib.hid hx; clear hx
    have HM := hide hmn; clear hmn hmn2
    obtain ⟨out, ho⟩ : ∃ out, extendL v' mn.toNat = out := ⟨_, rfl⟩
    have hE := extend_any v' mn w H6 hmn3 hmn4
    rw [ho] at hE hR'
    clear ho
    have HE := hide hE; clear hE
    go_enter Try.func15, Try.ntmps15
    go_wp2_with fail
    refine (raw_eq A cap bs n w hr hl _ _ _ _ H).mono ?_; rintro e w' ⟨rfl, rfl⟩
    go_wp2_with fail
    rw [HM.out]
    refine HE.out.mono ?_; rintro e w' ⟨rfl, rfl⟩
    have HR := hide hR'; clear hR'
    by_cases hneg : out < 0
    · by_cases hk : 0 < k
      · go_wp2_with fail
        refine (beyond_any c size' n x k HX _ h4 h0 h1 h2 h5 h3).mono ?_; rintro e w' ⟨rfl, rfl⟩
        go_wp2_with fail
        · have ht := (want_of x k hk6).1 (by assumption)
          have hR' := HR.out
          rw [if_pos hneg, if_pos ⟨hk, ht⟩] at hR'
          injection hR' with e1 e2
          injection e2 with e2 e3
          subst e1 e2 e3
          go_ret3
          exact ⟨rfl, rfl⟩
        · have ht : ¬ x ≠ 2 ^ k - 1 := fun h => by have := (want_of x k hk6).2 h; simp_all
          have hR' := HR.out
          rw [if_pos hneg, if_neg (fun h => ht h.2)] at hR'
          injection hR' with e1 e2
          injection e2 with e2 e3
          subst e1 e2 e3
          go_ret3
          exact ⟨rfl, rfl⟩
      · go_wp2_with fail
        refine (beyond_any c size' n x k HX _ h4 h0 h1 h2 h5 h3).mono ?_; rintro e w' ⟨rfl, rfl⟩
        go_wp2_with fail
        have hR' := HR.out
        rw [if_neg (fun h => hk h.1)] at hR'
        injection hR' with e1 e2
        injection e2 with e2 e3
        subst e1 e2 e3
        go_ret3
        exact ⟨rfl, rfl⟩
    · by_cases hk : 0 < k
      · go_wp2_with fail
        refine (beyond_any c size' n x k HX _ h4 h0 h1 h2 h5 h3).mono ?_; rintro e w' ⟨rfl, rfl⟩
        go_wp2_with fail
        · have ht : ((x : Int) != 0) = true := by assumption
          have ht : x ≠ 0 := by simpa [bne_iff_ne] using ht
          have hR' := HR.out
          rw [if_neg (show ¬ out < 0 from by omega), if_pos ⟨hk, ht⟩] at hR'
          injection hR' with e1 e2
          injection e2 with e2 e3
          subst e1 e2 e3
          go_ret3
          exact ⟨rfl, rfl⟩
        · have ht : ((x : Int) != 0) = false := by assumption
          have ht : x = 0 := by simpa using ht
          have hR' := HR.out
          rw [if_neg (show ¬ out < 0 from by omega), if_neg (fun h => h.2 ht)] at hR'
          injection hR' with e1 e2
          injection e2 with e2 e3
          subst e1 e2 e3
          go_ret3
          exact ⟨rfl, rfl⟩
      · go_wp2_with fail
        refine (beyond_any c size' n x k HX _ h4 h0 h1 h2 h5 h3).mono ?_; rintro e w' ⟨rfl, rfl⟩
        go_wp2_with fail
        have hR' := HR.out
        rw [if_neg (fun h => hk h.1)] at hR'
        injection hR' with e1 e2
        injection e2 with e2 e3
        subst e1 e2 e3
        go_ret3
        exact ⟨rfl, rfl⟩
  · have hR' := hR.out
    unfold signedL at hR'
    rw [h] at hR'
    have he1 : 0 < e' := by omega
    simp only [ne_eq, show ¬ e' = 0 from by omega, not_false_eq_true, if_true] at hR'
    injection hR' with e1 e2
    injection e2 with e2 e3
    subst e1 e2 e3
    have H := Lib.hid h; clear h he
    go_enter Try.func15, Try.ntmps15
    go_wp2_with fail
    refine (raw_eq A cap bs n w hr hl _ _ _ _ H).mono ?_; rintro e w' ⟨rfl, rfl⟩
    go_wp2_with fail
    go_ret3
    exact ⟨rfl, rfl⟩
end Go.Proofs.Ytnjaookmgcfoiaa
