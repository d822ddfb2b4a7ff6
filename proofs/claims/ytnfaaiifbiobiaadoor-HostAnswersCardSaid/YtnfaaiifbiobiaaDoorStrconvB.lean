/-
  strconv: numbers told by 16: contracts.
-/
import Derived.Test.YtnfaaiifbiobiaaDoorStrconv
namespace Go.Proofs.YtnfaaiifbiobiaaDoor
open Go.RowKit Go.Sort
set_option linter.unusedVariables false

set_option maxHeartbeats 400000 in
theorem tz64_16 (w : World) (ht : Hid (Tab2 w)) : Calls Tryd.prog 98 #[.int .u64 16] w fun e w' => e = .returned (.int .i64 4) ∧ w = w' := by
  have hc : w.cell? ⟨7, 15, none⟩ = some (.int .u8 4) := by
    have h := ht.out
    unfold Lib.TabIs at h
    have := World.var?_cell (g := 7) (by kernel_rfl) h 15
    rw [this]
    rfl
  have hb : bits BinOp.and IntKind.u64 16 (IntKind.u64.wrap (-16)) = 16 := by decide +kernel
  have hd : IntKind.u64.wrap ((16 : Int) * 285870213051353865) / 288230376151711744 = 15 := by decide +kernel
  go_enter Tryd.func98, Tryd.ntmps98
  go_wp2_with fail
  go_ret
  exact ⟨rfl, rfl⟩
set_option maxHeartbeats 400000 in
theorem tz_16 (w : World) (ht : Hid (Tab2 w)) : Calls Tryd.prog 95 #[.int .u64 16] w fun e w' => e = .returned (.int .i64 4) ∧ w = w' := by
  go_enter Tryd.func95, Tryd.ntmps95
  go_wp2_with fail
  refine (tz64_16 w ht).mono ?_; rintro e w' ⟨rfl, rfl⟩
  go_wp2_with fail
  go_ret
  exact ⟨rfl, rfl⟩
set_option maxHeartbeats 400000 in
theorem pow2_16 (w : World) : Calls Tryd.prog 94 #[.int .i64 16] w fun e w' => e = .returned (.bool true) ∧ w = w' := by
  have hb : bits BinOp.and IntKind.i64 16 15 = 0 := by decide +kernel
  go_enter Tryd.func94, Tryd.ntmps94
  go_wp2_with fail
  go_ret
  exact ⟨rfl, rfl⟩

theorem idx_digits (t : TypeId) (ht : Tryd.prog.underlying t = some .string) (k : IntKind) (d : Nat) (hd : d < 16) (w : World) :
    (Instr.index t (.string Lib.digits36) (.int k d)).run Tryd.prog w = .ok (B (digC d)) w := by
  have hs : Lib.digits36.size = 36 := by decide +kernel
  rw [run_index_string w t Lib.digits36 k _ ht, dif_pos ⟨by omega, by rw [hs]; omega⟩]
  have e : ((d : Int)).toNat = d := by omega
  simp only [e]
  have hall : ∀ i : Fin 16, (Lib.digits36.data[i.val]?).map (fun x => (x.toNat : Int)) = some ((digC i.val).toNat : Int) := by decide +kernel
  have h1 := hall ⟨d, hd⟩
  have hlt : d < Lib.digits36.data.size := by have : Lib.digits36.data.size = 36 := hs; omega
  rw [Array.getElem?_eq_getElem hlt] at h1
  simp only [Option.map_some, Option.some.injEq] at h1
  unfold B
  rw [← h1]
  rfl

theorem zeros65 : Tryd.zeroCells147.toList = List.replicate 65 (.int .u8 0) := by kernel_rfl
theorem set_mid {zs tl : List Value} {k : Nat} {x : Value} (hk : zs.length = k + 1) : (zs ++ tl).set k x = zs.take k ++ x :: tl := by
  rw [List.set_append_left _ _ (by omega), List.set_eq_take_append_cons_drop, if_pos (by omega), List.append_assoc, List.cons_append, List.drop_eq_nil_of_le (by omega), List.nil_append]

set_option maxHeartbeats 1600000 in
set_option maxRecDepth 100000 in
theorem formatBits16 (u : Nat) (w : World) (hu64 : u < 18446744073709551616) (ht : Hid (Tab2 w)) :
    Calls Tryd.prog 81 #[.slice none 0 0, .int .u64 u, .int .i64 16, .bool false, .bool false] w fun e w' => e = .returned (.tuple #[.slice none 0 0, .string ⟨(digL 16 u).toArray⟩]) ∧ Below w.heap.size w w' := by
  obtain ⟨base, hbase⟩ : ∃ b, w.heap.size = b := ⟨_, rfl⟩
  have ho0 := World.ownsRow_lit (base := base) (e := 147) (size := 1) w Tryd.zeroCells147 65 (by omega) (by unfold maxLen; omega) (by kernel_rfl)
  rw [hbase, zeros65] at ho0
  have hb0 : Below base w (w.alloc (.cells Tryd.zeroCells147 147)) := (Below.refl _ _).alloc (by omega) _
  have hbw : Below w.heap.size w (w.alloc (.cells Tryd.zeroCells147 147)) := (Below.refl _ _).alloc (by omega) _
  have HB0 := hide hb0
  have HTW := hide (tab_below_any ht.out hbw)
  have HB := hide hbase
  have hsl : Hid (∀ (W : World) (k : Nat), k ≤ 65 → (Instr.sliceAt 147 (.pointer (some ⟨base, 0, none⟩)) (some (.int .i64 (k : Int))) none none).run Tryd.prog W = .ok (.slice (if (65 : Nat) = k then some ⟨base, 0, none⟩ else some ⟨base, k, none⟩) (65 - k) (65 - k)) W) := by
    intro W k hk
    have hal : Tryd.prog.arrayLen 147 = 65 := by kernel_rfl
    have hun : Tryd.prog.underlying 147 = some (.array (Tryd.prog.arrayLen 147) (Tryd.prog.elem 147)) := by rw [Tryd.underlying147]; kernel_rfl
    rw [run_sliceAt_array_l W 147 ⟨base, 0, none⟩ hun .i64 (k : Int) (by omega) (by rw [hal]; omega)]
    clear hun hal
    go_simp
    by_cases h65 : 65 = k
    · subst h65; rfl
    · rw [if_neg h65, if_neg h65]
  clear hb0 hbw
  go_enter Tryd.func81, Tryd.ntmps81
  go_name_bytes S0 hS0
  clear hS0
  go_name_bytes SM hSM
  have eSM : SM = Lib.digits36 := by rw [← hSM]; decide +kernel
  subst eSM
  clear hSM
  go_wp2_with fail
  refine (pow2_16 _).mono ?_; rintro e w' ⟨rfl, rfl⟩
  go_wp2_with fail
  refine (tz_16 _ HTW).mono ?_; rintro e w' ⟨rfl, rfl⟩
  go_wp2_with fail
  clear hbase
  generalize w.alloc (.cells Tryd.zeroCells147 147) = w1 at ho0 HB0 HTW ⊢
  have HO0 := hide ho0; clear ho0 HTW
  go_loopw [1, 13] (fun vu vi w2 => ∃ (v j : Nat) (zs : List Value) (tl : List UInt8), vu = .int .u64 v ∧ vi = .int .i64 ((65 - j : Nat) : Int) ∧ j ≤ 15 ∧ Hid (zs.length = 65 - j ∧ v * 16 ^ j ≤ u ∧ v ≤ u ∧ digL 16 u = digL 16 v ++ tl ∧ tl.length = j) ∧ Hid (w2.ownsRow base 147 1 (.slice (some ⟨base, 0, none⟩) 65 65) 65 (zs ++ tl.map B)) ∧ Hid (Below base w w2)) (fun vu _ _ => (intOf vu).toNat)
  case atStart => exact ⟨u, 0, List.replicate 65 (.int .u8 0), [], rfl, rfl, by omega, ⟨by simp, by simp, Nat.le_refl _, by simp, rfl⟩, by simpa using HO0, HB0⟩
  case round =>
    obtain ⟨v, j, zs, tl, rfl, rfl, hj, hq, ho, hb⟩ := hrel
    obtain ⟨i, hi⟩ : ∃ i, 65 - j = i + 1 := ⟨64 - j, by omega⟩
    have hvb : v ≤ 18446744073709551615 := by have := hq.out.2.2.1; omega
    rw [hi]
    have hii : ((i + 1 : Nat) : Int) = (i : Int) + 1 := by omega
    have hfr := ho.out.frozenAt i
    have hi64 : i ≤ 64 := by omega
    obtain ⟨x0, hx0⟩ : ∃ x0, (zs ++ tl.map B)[i]? = some x0 := ⟨_, List.getElem?_eq_getElem (by rw [List.length_append, List.length_map, hq.out.1, hq.out.2.2.2.2]; omega)⟩
    have hc := (ho.out.cellAt i (by omega)).trans hx0
    have hand : bits .and .u64 (v : Int) 15 = (v : Int) % 16 := by
      have := u64_and_nat v 15 (by omega) (by omega)
      rw [show (15 : Nat) = 2 ^ 4 - 1 from rfl, Nat.and_two_pow_sub_one_eq_mod, Int.natCast_emod] at this
      exact this
    clear hx0
    by_cases hge : 16 ≤ v
    · have hix : ∀ W, (Instr.index 9 (.string Lib.digits36) (.int .u64 ((v : Int) % 16))).run Tryd.prog W = .ok (.int .u8 ((digC (v % 16)).toNat : Int)) W := by
        have := idx_digits _ Tryd.underlying9 .u64 (v % 16) (Nat.mod_lt _ (by omega))
        rw [Int.natCast_emod] at this
        exact this
      go_wp2_with fail
      go_roundw
      case rel =>
        refine ⟨v / 16, j + 1, zs.take i, digC (v % 16) :: tl, int_congr (by omega), int_congr (by omega), ?_, ?_, ?_, hb.out.setCell (by show base ≤ base; omega) _⟩
        · have h1 := hq.out.2.1
          apply Decidable.byContradiction
          intro hn
          have h2 : 16 ^ 15 ≤ 16 ^ j := Nat.pow_le_pow_right (by omega) (by omega)
          have h3 : 16 * 16 ^ 15 ≤ v * 16 ^ j := Nat.mul_le_mul hge h2
          simp only [Nat.reducePow] at h3
          omega
        · obtain ⟨q1, q2, q3, q4, q5⟩ := hq.out
          refine ⟨by rw [List.length_take, q1]; omega, ?_, by omega, ?_, by rw [List.length_cons, q5]⟩
          · rw [Nat.pow_succ, Nat.mul_comm (16 ^ j), ← Nat.mul_assoc]
            exact Nat.le_trans (Nat.mul_le_mul_right _ (by omega)) q2
          · rw [q4, digL_big (by omega) hge, List.append_assoc, List.singleton_append]
        · have h := (ho.out.stored i (B (digC (v % 16)))).1
          rw [set_mid (by rw [hq.out.1, hi])] at h
          show World.ownsRow _ _ _ _ _ _ _
          exact h
      case measure => simp [intOf]; omega
    · have hlt : v < 16 := by omega
      have hix : ∀ W, (Instr.index 9 (.string Lib.digits36) (.int .u64 (v : Int))).run Tryd.prog W = .ok (.int .u8 ((digC v).toNat : Int)) W := idx_digits _ Tryd.underlying9 .u64 v hlt
      have hsl2 := fun W => hsl.out W i (by omega)
      have ho2 := hide (ho.out.stored i (B (digC v))).1
      have hb2 := hide (hb.out.setCell (p := ⟨base, i, none⟩) (by show base ≤ base; omega) (B (digC v)))
      clear hge
      have hn65 : ¬ 65 = i := by omega
      have hrd : Reads (wr.setCell ⟨base, i, none⟩ (.int .u8 ((digC v).toNat : Int))) (wr.setCell ⟨base, i, none⟩ (.int .u8 ((digC v).toNat : Int))).heap.size 1 (some ⟨base, i, none⟩) (digL 16 u).length ((digL 16 u).map B) := by
        obtain ⟨q1, q2, q3, q4, q5⟩ := hq.out
        have h := ho2.out
        rw [set_mid (by rw [q1, hi])] at h
        have h := (Reads.of_own h).cut (k := i) (cap := 65) (by omega) (by omega)
        rw [if_neg hn65, Nat.mul_one, List.drop_append_of_le_length (by rw [List.length_take, q1]; omega), List.drop_eq_nil_of_le (by rw [List.length_take, q1]; omega), List.nil_append] at h
        have hl : (digL 16 u).map B = B (digC v) :: tl.map B := by rw [q4, digL_small hlt]; rfl
        have hll : (digL 16 u).length = 65 - i := by rw [q4, digL_small hlt, List.length_append, q5]; simp; omega
        rw [hl, hll]
        have ha : (Option.map (fun x : Addr => x.add i) (some ⟨base, 0, none⟩)) = some ⟨base, i, none⟩ := by
          show some ((⟨base, 0, none⟩ : Addr).add i) = _
          rw [Lib.add_plain, Nat.zero_add]
        rw [ha] at h
        exact h
      have hcv := run_string_reads (P := Tryd.prog) 36 9 5 (65 - i) Tryd.underlying36 Tryd.underlying5 Tryd.underlying9 hrd
      rw [show (digL 16 u).length = 65 - i from by rw [hq.out.2.2.2.1, digL_small hlt, List.length_append, hq.out.2.2.2.2]; simp; omega] at hcv
      clear hrd
      go_wp2_with fail
      go_ret2
      exact ⟨rfl, by rw [HB.out]; exact hb2.out⟩

set_option maxHeartbeats 800000 in
theorem formatUint16 (u : Nat) (w : World) (hu64 : u < 18446744073709551616) (ht : Hid (Tab2 w)) : Calls Tryd.prog 66 #[.int .u64 u, .int .i64 16] w (SaysP w (digL 16 u)) := by
  have H := hide (formatBits16 u w hu64 ht)
  go_enter Tryd.func66, Tryd.ntmps66
  go_wp2_with fail
  refine H.out.mono ?_; rintro e w' ⟨rfl, hb⟩
  have HB := hide hb; clear hb
  go_wp2_with fail
  go_ret
  exact ⟨rfl, HB.out⟩

/-- strconv.FormatUint, in tens, and by 16 -/
theorem fmtU10 (u : Nat) (w : World) (hu64 : u < 18446744073709551616) (ht : Hid (LaidC w)) : Calls Tryd.prog 51 #[.int .u64 u, .int .i64 10] w (SaysP w (digL 10 u)) := by
  have H := hide (formatUint10 u w hu64 ht.out.p10)
  rw [decDigits_digL] at H
  go_enter Tryd.func51, Tryd.ntmps51
  go_wp2_with fail
  refine H.out.mono ?_; rintro e w' ⟨rfl, hb⟩
  have HB := hide hb; clear hb
  go_wp2_with fail
  go_ret
  exact ⟨rfl, HB.out⟩
theorem fmtU16 (u : Nat) (w : World) (hu64 : u < 18446744073709551616) (ht : Hid (LaidC w)) : Calls Tryd.prog 51 #[.int .u64 u, .int .i64 16] w (SaysP w (digL 16 u)) := by
  have H := hide (formatUint16 u w hu64 ht.out.db)
  go_enter Tryd.func51, Tryd.ntmps51
  go_wp2_with fail
  refine H.out.mono ?_; rintro e w' ⟨rfl, hb⟩
  have HB := hide hb; clear hb
  go_wp2_with fail
  go_ret
  exact ⟨rfl, HB.out⟩
theorem fmtI10 (n : Int) (w : World) (h0 : -9223372036854775808 ≤ n) (h1 : n ≤ 9223372036854775807) (ht : Hid (LaidC w)) : Calls Tryd.prog 49 #[.int .i64 n, .int .i64 10] w (SaysP w (Lib.itoa n)) := by
  refine (Tryd.strconv_FormatInt_10 n h0 h1 w ht.out.p10).mono ?_
  rintro e w' ⟨rfl, k, os, rfl⟩
  exact ⟨rfl, Go.Lib.below_grow w.heap.size w (Nat.le_refl _) k os⟩
end Go.Proofs.YtnfaaiifbiobiaaDoor
