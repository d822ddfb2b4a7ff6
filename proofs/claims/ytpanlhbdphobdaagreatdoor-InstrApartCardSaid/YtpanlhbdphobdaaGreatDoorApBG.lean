/-
  strconv: numbers told in tens and by 16: contracts.
  strconv: numbers told by 16: contracts.
-/
import Derived.Test.YtpanlhbdphobdaaGreatDoorRows
import Derived.Test.YtpanlhbdphobdaaGreatDoorApAC
import Derived.Test.YtpanlhbdphobdaaGreatDoorShelf
import Derived.Test.YtpanlhbdphobdaaGreatDoorApBF
import Derived.Lib.ItoaMem
import Derived.Lib.AppendIntMem
import Derived.Lib.ItoaWalk
import Derived.Lib.Walk
import Derived.Maps.RangeWalk
import Derived.BigCall
import Derived.BigGuard
import Derived.CellFam
import Derived.Outline
namespace Go.Proofs.YtpanlhbdphobdaaGreatDoor
open Go.RowKit Go.Sort
set_option linter.unusedVariables false

abbrev Tab (w : World) : Prop := Lib.TabIs Tryz.prog w "internal/strconv.uint64pow10" .u64 Lib.pow10Tab
def dB64 : List Int := [0, 1, 56, 2, 57, 49, 28, 3, 61, 58, 42, 50, 38, 29, 17, 4, 62, 47, 59, 36, 45, 43, 51, 22, 53, 39, 33, 30, 24, 18, 12, 5, 63, 55, 48, 27, 60, 41, 37, 16, 46, 35, 44, 21, 52, 32, 23, 11, 54, 26, 40, 15, 34, 20, 31, 10, 25, 14, 19, 9, 13, 8, 7, 6]
abbrev Tab2 (w : World) : Prop := Lib.TabIs Tryz.prog w "math/bits.deBruijn64tab" .u8 dB64
/-- what the variables hold that this code reads -/
structure LaidC (w : World) : Prop where
  p10 : Tab w
  db : Tab2 w
  syn : ∃ tp p, w.cell? ⟨1, 0, none⟩ = some (.iface tp p)
  rng : ∃ tp p, w.cell? ⟨2, 0, none⟩ = some (.iface tp p)

theorem tab_below_any {P : Program} {name : String} {k : IntKind} {zs : List Int} {w w' : World} (h : Lib.TabIs P w name k zs) (hb : Below w.heap.size w w') : Lib.TabIs P w' name k zs := by
  unfold Lib.TabIs World.var? at *
  revert h
  cases hg : P.globalNamed name with
  | none => intro h; simp at h
  | some g =>
    intro h
    simp only [Option.bind_some] at h ⊢
    have hlt : g < w.heap.size := by
      apply Decidable.byContradiction
      intro hn
      rw [Array.getElem?_eq_none (by omega)] at h
      simp at h
    rw [hb.block g hlt]
    exact h
theorem tab_below {w w' : World} (h : Tab w) (hb : Below w.heap.size w w') : Tab w' := tab_below_any h hb
theorem LaidC.below {w w' : World} (h : LaidC w) (hb : Below w.heap.size w w') : LaidC w' := by
  refine ⟨tab_below_any h.p10 hb, tab_below_any h.db hb, ?_, ?_⟩
  · obtain ⟨tp, p, e⟩ := h.syn
    exact ⟨tp, p, (hb.cell (World.block_lt_of_cell? w _ e)).trans e⟩
  · obtain ⟨tp, p, e⟩ := h.rng
    exact ⟨tp, p, (hb.cell (World.block_lt_of_cell? w _ e)).trans e⟩

/-- a string that a call answers, new blocks aside -/
def SaysP (w : World) (l : List UInt8) (e : Ending) (w' : World) : Prop := e = .returned (.string ⟨l.toArray⟩) ∧ Below w.heap.size w w'

set_option maxHeartbeats 1600000 in
set_option maxRecDepth 100000 in
theorem formatUint10_small (u : Nat) (w : World) (hu : u < 100) : Calls Tryz.prog 125 #[.int .u64 u, .int .i64 10] w (SaysP w (Lib.decDigits u)) := by
  have H := hide (Tryz.internal_strconv_small u hu w)
  go_enter Tryz.func125, Tryz.ntmps125
  go_wp2_with fail
  refine H.out.mono ?_; rintro e w' ⟨rfl, rfl⟩
  go_wp2_with fail
  go_ret
  exact ⟨rfl, Below.refl _ _⟩

set_option maxHeartbeats 6400000 in
set_option maxRecDepth 100000 in
theorem formatUint10_big (u : Nat) (w : World) (hu : 100 ≤ u) (hu64 : u < 18446744073709551616) (ht : Hid (Tab w)) : Calls Tryz.prog 125 #[.int .u64 u, .int .i64 10] w (SaysP w (Lib.decDigits u)) := by
  have hu1 : 1 ≤ u := by omega
  have hnd20 : Lib.nDigits u ≤ 20 := by have := Lib.numDigits_eq u hu1 hu64; split at this <;> omega
  have hal : Tryz.prog.arrayLen 218 = 24 := by kernel_rfl
  have hun : Tryz.prog.underlying 218 = some (.array (Tryz.prog.arrayLen 218) (Tryz.prog.elem 218)) := by rw [Tryz.underlying218]; kernel_rfl
  have hsl : ∀ W, (Instr.sliceAt 218 (.pointer (some ⟨w.heap.size, 0, none⟩)) none (some (.int .i64 (Lib.nDigits u : Int))) none).run Tryz.prog W = .ok (.slice (some ⟨w.heap.size, 0, none⟩) (Lib.nDigits u) 24) W := fun W => by
    rw [run_sliceAt_array_h W 218 ⟨w.heap.size, 0, none⟩ hun .i64 (Lib.nDigits u : Int) (by omega) (by rw [hal]; omega)]
    clear hun hal
    go_simp
  have hH0 := Lib.holds_zero0 w 218 (Lib.nDigits u) (by omega)
  have hfmt := Tryz.internal_strconv_formatBase10 w.heap.size 0 24 u (Array.replicate (Lib.nDigits u) 0) (w.alloc (.cells Lib.zeros24 218)) hH0 (by rw [Array.size_replicate]; exact Lib.lt_pow_nDigits u) hu64 (by rw [Array.size_replicate]; omega)
  rw [Array.size_replicate] at hfmt
  have HF := hide hfmt
  have HN := hide (Tryz.internal_strconv_numDigits u hu1 hu64 (w.alloc (.cells Lib.zeros24 218)) (Lib.tabIs_alloc ht.out _))
  have HH0 := hide hH0
  have iu : (100 : Int) ≤ (u : Int) := by omega
  clear hH0 hal hun hfmt
  go_enter Tryz.func125, Tryz.ntmps125
  go_wp2_with fail
  refine HN.out.mono ?_; rintro e w' ⟨rfl, rfl⟩
  go_wp2_with fail
  refine HF.out.mono ?_
  rintro e w' ⟨rfl, k, v', dk, rfl, hF⟩
  have hread : Reads ((putRow (fun (b : UInt8) => Value.int .u8 (b.toNat : Int)) (w.alloc (.cells Lib.zeros24 218)) w.heap.size 0 dk).drewN k) (w.heap.size + 1) 1 (some ⟨w.heap.size, 0, none⟩) (Lib.nDigits u) ((Lib.decDigits u).map B) := by
    refine ⟨by rw [List.length_map, Lib.decDigits_length]; omega, fun _ => ⟨_, rfl, by simp, fun j u' hj => ?_⟩⟩
    have hjl : j < (Lib.decDigits u).length := by
      have h5 := (List.getElem?_eq_some_iff.1 hj).1
      rwa [List.length_map] at h5
    rw [List.getElem?_map, List.getElem?_eq_getElem hjl] at hj
    simp only [Option.map_some, Option.some.injEq] at hj
    subst hj
    rw [Lib.row_is_numeral hF j hjl, Lib.add_plain, World.cell?_drewN]
    exact cell?_putRow (fun (b : UInt8) => Value.int .u8 (b.toNat : Int)) _ w.heap.size 0 _ dk HH0.out (by rw [hF.size, Array.size_replicate]) j (by rw [hF.size]; rw [Lib.decDigits_length] at hjl; exact hjl)
  obtain ⟨os, eo⟩ := Lib.fin_at w (.cells Lib.zeros24 218) dk k 0
  have hnx2 : Below w.heap.size w ((putRow (fun (b : UInt8) => Value.int .u8 (b.toNat : Int)) (w.alloc (.cells Lib.zeros24 218)) w.heap.size 0 dk).drewN k) := by rw [eo]; exact Lib.below_grow w.heap.size w (Nat.le_refl _) k os
  generalize (putRow (fun (b : UInt8) => Value.int .u8 (b.toNat : Int)) (w.alloc (.cells Lib.zeros24 218)) w.heap.size 0 dk).drewN k = W2 at hread hnx2 ⊢
  clear eo HH0 HF HN
  have hread' : Reads W2 (w.heap.size + 1) 1 (some ⟨w.heap.size, 0, none⟩) (Lib.decDigits u).length ((Lib.decDigits u).map B) := by rw [Lib.decDigits_length]; exact hread
  have hcv := run_string_reads (P := Tryz.prog) 39 9 5 24 Tryz.underlying39 Tryz.underlying5 Tryz.underlying9 hread'
  rw [Lib.decDigits_length] at hcv
  have HNX := hide hnx2
  clear hread hread' hnx2
  go_wp2_with fail
  go_ret
  exact ⟨rfl, HNX.out⟩

theorem formatUint10 (u : Nat) (w : World) (hu64 : u < 18446744073709551616) (ht : Hid (Tab w)) : Calls Tryz.prog 125 #[.int .u64 u, .int .i64 10] w (SaysP w (Lib.decDigits u)) := by
  by_cases h : u < 100
  · exact formatUint10_small u w h
  · exact formatUint10_big u w (by omega) hu64 ht
end Go.Proofs.YtpanlhbdphobdaaGreatDoor

namespace Go.Proofs.YtpanlhbdphobdaaGreatDoor
open Go.RowKit Go.Sort
set_option linter.unusedVariables false

set_option maxHeartbeats 400000 in
theorem tz64_16 (w : World) (ht : Hid (Tab2 w)) : Calls Tryz.prog 194 #[.int .u64 16] w fun e w' => e = .returned (.int .i64 4) ∧ w = w' := by
  have hc : w.cell? ⟨7, 15, none⟩ = some (.int .u8 4) := by
    have h := ht.out
    unfold Lib.TabIs at h
    have := World.var?_cell (g := 7) (by kernel_rfl) h 15
    rw [this]
    rfl
  have hb : bits BinOp.and IntKind.u64 16 (IntKind.u64.wrap (-16)) = 16 := by decide +kernel
  have hd : IntKind.u64.wrap ((16 : Int) * 285870213051353865) / 288230376151711744 = 15 := by decide +kernel
  go_enter Tryz.func194, Tryz.ntmps194
  go_wp2_with fail
  go_ret
  exact ⟨rfl, rfl⟩
set_option maxHeartbeats 400000 in
theorem tz_16 (w : World) (ht : Hid (Tab2 w)) : Calls Tryz.prog 182 #[.int .u64 16] w fun e w' => e = .returned (.int .i64 4) ∧ w = w' := by
  go_enter Tryz.func182, Tryz.ntmps182
  go_wp2_with fail
  refine (tz64_16 w ht).mono ?_; rintro e w' ⟨rfl, rfl⟩
  go_wp2_with fail
  go_ret
  exact ⟨rfl, rfl⟩
set_option maxHeartbeats 400000 in
theorem pow2_16 (w : World) : Calls Tryz.prog 181 #[.int .i64 16] w fun e w' => e = .returned (.bool true) ∧ w = w' := by
  have hb : bits BinOp.and IntKind.i64 16 15 = 0 := by decide +kernel
  go_enter Tryz.func181, Tryz.ntmps181
  go_wp2_with fail
  go_ret
  exact ⟨rfl, rfl⟩

theorem idx_digits (t : TypeId) (ht : Tryz.prog.underlying t = some .string) (k : IntKind) (d : Nat) (hd : d < 16) (w : World) :
    (Instr.index t (.string Lib.digits36) (.int k d)).run Tryz.prog w = .ok (B (digC d)) w := by
  have hs : Lib.digits36.size = 36 := by decide +kernel
  rw [run_index_string w t Lib.digits36 k _ ht, dif_pos ⟨by omega, by rw [hs]; omega⟩]
  have e : ((d : Int)).toNat = d := by omega
  simp only [e]
  have hall : ∀ i : Fin 16, (Lib.digits36.data[i.val]?).map (fun x => (x.toNat : Int)) = some ((digC i.val).toNat : Int) := by decide +kernel
  have h1 := hall ⟨d, hd⟩
  have hlt : d < Lib.digits36.data.size := by have : Lib.digits36.data.size = 36 := hs; omega
  rw [Array.getElem?_eq_getElem hlt] at h1
  simp only [Option.map_some, Option.some.injEq] at h1
  unfold B
  rw [← h1]
  rfl

theorem zeros65 : Tryz.zeroCells245.toList = List.replicate 65 (.int .u8 0) := by kernel_rfl
theorem set_mid {zs tl : List Value} {k : Nat} {x : Value} (hk : zs.length = k + 1) : (zs ++ tl).set k x = zs.take k ++ x :: tl := by
  rw [List.set_append_left _ _ (by omega), List.set_eq_take_append_cons_drop, if_pos (by omega), List.append_assoc, List.cons_append, List.drop_eq_nil_of_le (by omega), List.nil_append]

set_option maxHeartbeats 1600000 in
set_option maxRecDepth 100000 in
theorem formatBits16 (u : Nat) (w : World) (hu64 : u < 18446744073709551616) (ht : Hid (Tab2 w)) :
    Calls Tryz.prog 153 #[.slice none 0 0, .int .u64 u, .int .i64 16, .bool false, .bool false] w fun e w' => e = .returned (.tuple #[.slice none 0 0, .string ⟨(digL 16 u).toArray⟩]) ∧ Below w.heap.size w w' := by
  obtain ⟨base, hbase⟩ : ∃ b, w.heap.size = b := ⟨_, rfl⟩
  have ho0 := World.ownsRow_lit (base := base) (e := 245) (size := 1) w Tryz.zeroCells245 65 (by omega) (by unfold maxLen; omega) (by kernel_rfl)
  rw [hbase, zeros65] at ho0
  have hb0 : Below base w (w.alloc (.cells Tryz.zeroCells245 245)) := (Below.refl _ _).alloc (by omega) _
  have hbw : Below w.heap.size w (w.alloc (.cells Tryz.zeroCells245 245)) := (Below.refl _ _).alloc (by omega) _
  have HB0 := hide hb0
  have HTW := hide (tab_below_any ht.out hbw)
  have HB := hide hbase
  have hsl : Hid (∀ (W : World) (k : Nat), k ≤ 65 → (Instr.sliceAt 245 (.pointer (some ⟨base, 0, none⟩)) (some (.int .i64 (k : Int))) none none).run Tryz.prog W = .ok (.slice (if (65 : Nat) = k then some ⟨base, 0, none⟩ else some ⟨base, k, none⟩) (65 - k) (65 - k)) W) := by
    intro W k hk
    have hal : Tryz.prog.arrayLen 245 = 65 := by kernel_rfl
    have hun : Tryz.prog.underlying 245 = some (.array (Tryz.prog.arrayLen 245) (Tryz.prog.elem 245)) := by rw [Tryz.underlying245]; kernel_rfl
    rw [run_sliceAt_array_l W 245 ⟨base, 0, none⟩ hun .i64 (k : Int) (by omega) (by rw [hal]; omega)]
    clear hun hal
    go_simp
    by_cases h65 : 65 = k
    · subst h65; rfl
    · rw [if_neg h65, if_neg h65]
  clear hb0 hbw
  go_enter Tryz.func153, Tryz.ntmps153
  go_name_bytes S0 hS0
  clear hS0
  go_name_bytes SM hSM
  have eSM : SM = Lib.digits36 := by rw [← hSM]; decide +kernel
  subst eSM
  clear hSM
  go_wp2_with fail
  refine (pow2_16 _).mono ?_; rintro e w' ⟨rfl, rfl⟩
  go_wp2_with fail
  refine (tz_16 _ HTW).mono ?_; rintro e w' ⟨rfl, rfl⟩
  go_wp2_with fail
  clear hbase
  generalize w.alloc (.cells Tryz.zeroCells245 245) = w1 at ho0 HB0 HTW ⊢
  have HO0 := hide ho0; clear ho0 HTW
  go_loopw [1, 13] (fun vu vi w2 => ∃ (v j : Nat) (zs : List Value) (tl : List UInt8), vu = .int .u64 v ∧ vi = .int .i64 ((65 - j : Nat) : Int) ∧ j ≤ 15 ∧ Hid (zs.length = 65 - j ∧ v * 16 ^ j ≤ u ∧ v ≤ u ∧ digL 16 u = digL 16 v ++ tl ∧ tl.length = j) ∧ Hid (w2.ownsRow base 245 1 (.slice (some ⟨base, 0, none⟩) 65 65) 65 (zs ++ tl.map B)) ∧ Hid (Below base w w2)) (fun vu _ _ => (intOf vu).toNat)
  case atStart => exact ⟨u, 0, List.replicate 65 (.int .u8 0), [], rfl, rfl, by omega, ⟨by simp, by simp, Nat.le_refl _, by simp, rfl⟩, by simpa using HO0, HB0⟩
  case round =>
    obtain ⟨v, j, zs, tl, rfl, rfl, hj, hq, ho, hb⟩ := hrel
    obtain ⟨i, hi⟩ : ∃ i, 65 - j = i + 1 := ⟨64 - j, by omega⟩
    have hvb : v ≤ 18446744073709551615 := by have := hq.out.2.2.1; omega
    rw [hi]
    have hii : ((i + 1 : Nat) : Int) = (i : Int) + 1 := by omega
    have hfr := ho.out.frozenAt i
    have hi64 : i ≤ 64 := by omega
    obtain ⟨x0, hx0⟩ : ∃ x0, (zs ++ tl.map B)[i]? = some x0 := ⟨_, List.getElem?_eq_getElem (by rw [List.length_append, List.length_map, hq.out.1, hq.out.2.2.2.2]; omega)⟩
    have hc := (ho.out.cellAt i (by omega)).trans hx0
    have hand : bits .and .u64 (v : Int) 15 = (v : Int) % 16 := by
      have := u64_and_nat v 15 (by omega) (by omega)
      rw [show (15 : Nat) = 2 ^ 4 - 1 from rfl, Nat.and_two_pow_sub_one_eq_mod, Int.natCast_emod] at this
      exact this
    clear hx0
    by_cases hge : 16 ≤ v
    · have hix : ∀ W, (Instr.index 9 (.string Lib.digits36) (.int .u64 ((v : Int) % 16))).run Tryz.prog W = .ok (.int .u8 ((digC (v % 16)).toNat : Int)) W := by
        have := idx_digits _ Tryz.underlying9 .u64 (v % 16) (Nat.mod_lt _ (by omega))
        rw [Int.natCast_emod] at this
        exact this
      go_wp2_with fail
      go_roundw
      case rel =>
        refine ⟨v / 16, j + 1, zs.take i, digC (v % 16) :: tl, int_congr (by omega), int_congr (by omega), ?_, ?_, ?_, hb.out.setCell (by show base ≤ base; omega) _⟩
        · have h1 := hq.out.2.1
          apply Decidable.byContradiction
          intro hn
          have h2 : 16 ^ 15 ≤ 16 ^ j := Nat.pow_le_pow_right (by omega) (by omega)
          have h3 : 16 * 16 ^ 15 ≤ v * 16 ^ j := Nat.mul_le_mul hge h2
          simp only [Nat.reducePow] at h3
          omega
        · obtain ⟨q1, q2, q3, q4, q5⟩ := hq.out
          refine ⟨by rw [List.length_take, q1]; omega, ?_, by omega, ?_, by rw [List.length_cons, q5]⟩
          · rw [Nat.pow_succ, Nat.mul_comm (16 ^ j), ← Nat.mul_assoc]
            exact Nat.le_trans (Nat.mul_le_mul_right _ (by omega)) q2
          · rw [q4, digL_big (by omega) hge, List.append_assoc, List.singleton_append]
        · have h := (ho.out.stored i (B (digC (v % 16)))).1
          rw [set_mid (by rw [hq.out.1, hi])] at h
          show World.ownsRow _ _ _ _ _ _ _
          exact h
      case measure => simp [intOf]; omega
    · have hlt : v < 16 := by omega
      have hix : ∀ W, (Instr.index 9 (.string Lib.digits36) (.int .u64 (v : Int))).run Tryz.prog W = .ok (.int .u8 ((digC v).toNat : Int)) W := idx_digits _ Tryz.underlying9 .u64 v hlt
      have hsl2 := fun W => hsl.out W i (by omega)
      have ho2 := hide (ho.out.stored i (B (digC v))).1
      have hb2 := hide (hb.out.setCell (p := ⟨base, i, none⟩) (by show base ≤ base; omega) (B (digC v)))
      clear hge
      have hn65 : ¬ 65 = i := by omega
      have hrd : Reads (wr.setCell ⟨base, i, none⟩ (.int .u8 ((digC v).toNat : Int))) (wr.setCell ⟨base, i, none⟩ (.int .u8 ((digC v).toNat : Int))).heap.size 1 (some ⟨base, i, none⟩) (digL 16 u).length ((digL 16 u).map B) := by
        obtain ⟨q1, q2, q3, q4, q5⟩ := hq.out
        have h := ho2.out
        rw [set_mid (by rw [q1, hi])] at h
        have h := (Reads.of_own h).cut (k := i) (cap := 65) (by omega) (by omega)
        rw [if_neg hn65, Nat.mul_one, List.drop_append_of_le_length (by rw [List.length_take, q1]; omega), List.drop_eq_nil_of_le (by rw [List.length_take, q1]; omega), List.nil_append] at h
        have hl : (digL 16 u).map B = B (digC v) :: tl.map B := by rw [q4, digL_small hlt]; rfl
        have hll : (digL 16 u).length = 65 - i := by rw [q4, digL_small hlt, List.length_append, q5]; simp; omega
        rw [hl, hll]
        have ha : (Option.map (fun x : Addr => x.add i) (some ⟨base, 0, none⟩)) = some ⟨base, i, none⟩ := by
          show some ((⟨base, 0, none⟩ : Addr).add i) = _
          rw [Lib.add_plain, Nat.zero_add]
        rw [ha] at h
        exact h
      have hcv := run_string_reads (P := Tryz.prog) 39 9 5 (65 - i) Tryz.underlying39 Tryz.underlying5 Tryz.underlying9 hrd
      rw [show (digL 16 u).length = 65 - i from by rw [hq.out.2.2.2.1, digL_small hlt, List.length_append, hq.out.2.2.2.2]; simp; omega] at hcv
      clear hrd
      go_wp2_with fail
      go_ret2
      exact ⟨rfl, by rw [HB.out]; exact hb2.out⟩

set_option maxHeartbeats 800000 in
theorem formatUint16 (u : Nat) (w : World) (hu64 : u < 18446744073709551616) (ht : Hid (Tab2 w)) : Calls Tryz.prog 125 #[.int .u64 u, .int .i64 16] w (SaysP w (digL 16 u)) := by
  have H := hide (formatBits16 u w hu64 ht)
  go_enter Tryz.func125, Tryz.ntmps125
  go_wp2_with fail
  refine H.out.mono ?_; rintro e w' ⟨rfl, hb⟩
  have HB := hide hb; clear hb
  go_wp2_with fail
  go_ret
  exact ⟨rfl, HB.out⟩

/-- strconv.FormatUint, in tens, and by 16 -/
theorem fmtU10 (u : Nat) (w : World) (hu64 : u < 18446744073709551616) (ht : Hid (LaidC w)) : Calls Tryz.prog 98 #[.int .u64 u, .int .i64 10] w (SaysP w (digL 10 u)) := by
  have H := hide (formatUint10 u w hu64 ht.out.p10)
  rw [decDigits_digL] at H
  go_enter Tryz.func98, Tryz.ntmps98
  go_wp2_with fail
  refine H.out.mono ?_; rintro e w' ⟨rfl, hb⟩
  have HB := hide hb; clear hb
  go_wp2_with fail
  go_ret
  exact ⟨rfl, HB.out⟩
theorem fmtU16 (u : Nat) (w : World) (hu64 : u < 18446744073709551616) (ht : Hid (LaidC w)) : Calls Tryz.prog 98 #[.int .u64 u, .int .i64 16] w (SaysP w (digL 16 u)) := by
  have H := hide (formatUint16 u w hu64 ht.out.db)
  go_enter Tryz.func98, Tryz.ntmps98
  go_wp2_with fail
  refine H.out.mono ?_; rintro e w' ⟨rfl, hb⟩
  have HB := hide hb; clear hb
  go_wp2_with fail
  go_ret
  exact ⟨rfl, HB.out⟩
theorem fmtI10 (n : Int) (w : World) (h0 : -9223372036854775808 ≤ n) (h1 : n ≤ 9223372036854775807) (ht : Hid (LaidC w)) : Calls Tryz.prog 99 #[.int .i64 n, .int .i64 10] w (SaysP w (Lib.itoa n)) := by
  refine (Tryz.strconv_FormatInt_10 n h0 h1 w ht.out.p10).mono ?_
  rintro e w' ⟨rfl, k, os, rfl⟩
  exact ⟨rfl, Go.Lib.below_grow w.heap.size w (Nat.le_refl _) k os⟩
end Go.Proofs.YtpanlhbdphobdaaGreatDoor
