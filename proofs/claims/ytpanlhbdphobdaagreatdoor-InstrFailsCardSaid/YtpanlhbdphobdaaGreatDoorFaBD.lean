/-
  strconv: numbers told by 16: contracts.
  strconv: texts of numbers by 16, read: contracts.
-/
import Derived.Test.YtpanlhbdphobdaaGreatDoorFaBC
namespace Go.Proofs.YtpanlhbdphobdaaGreatDoor
open Go.RowKit Go.Sort
set_option linter.unusedVariables false

set_option maxHeartbeats 400000 in
theorem tz64_16 (w : World) (ht : Hid (Tab2 w)) : Calls Tryz.prog 194 #[.int .u64 16] w fun e w' => e = .returned (.int .i64 4) ∧ w = w' := by
  have hc : w.cell? ⟨7, 15, none⟩ = some (.int .u8 4) := by
    have h := ht.out
    unfold Lib.TabIs at h
    have := World.var?_cell (g := 7) (by kernel_rfl) h 15
    rw [this]
    rfl
  have hb : bits BinOp.and IntKind.u64 16 (IntKind.u64.wrap (-16)) = 16 := by decide +kernel
  have hd : IntKind.u64.wrap ((16 : Int) * 285870213051353865) / 288230376151711744 = 15 := by decide +kernel
  go_enter Tryz.func194, Tryz.ntmps194
  go_wp2_with fail
  go_ret
  exact ⟨rfl, rfl⟩
set_option maxHeartbeats 400000 in
theorem tz_16 (w : World) (ht : Hid (Tab2 w)) : Calls Tryz.prog 182 #[.int .u64 16] w fun e w' => e = .returned (.int .i64 4) ∧ w = w' := by
  go_enter Tryz.func182, Tryz.ntmps182
  go_wp2_with fail
  refine (tz64_16 w ht).mono ?_; rintro e w' ⟨rfl, rfl⟩
  go_wp2_with fail
  go_ret
  exact ⟨rfl, rfl⟩
set_option maxHeartbeats 400000 in
theorem pow2_16 (w : World) : Calls Tryz.prog 181 #[.int .i64 16] w fun e w' => e = .returned (.bool true) ∧ w = w' := by
  have hb : bits BinOp.and IntKind.i64 16 15 = 0 := by decide +kernel
  go_enter Tryz.func181, Tryz.ntmps181
  go_wp2_with fail
  go_ret
  exact ⟨rfl, rfl⟩

theorem idx_digits (t : TypeId) (ht : Tryz.prog.underlying t = some .string) (k : IntKind) (d : Nat) (hd : d < 16) (w : World) :
    (Instr.index t (.string Lib.digits36) (.int k d)).run Tryz.prog w = .ok (B (digC d)) w := by
  have hs : Lib.digits36.size = 36 := by decide +kernel
  rw [run_index_string w t Lib.digits36 k _ ht, dif_pos ⟨by omega, by rw [hs]; omega⟩]
  have e : ((d : Int)).toNat = d := by omega
  simp only [e]
  have hall : ∀ i : Fin 16, (Lib.digits36.data[i.val]?).map (fun x => (x.toNat : Int)) = some ((digC i.val).toNat : Int) := by decide +kernel
  have h1 := hall ⟨d, hd⟩
  have hlt : d < Lib.digits36.data.size := by have : Lib.digits36.data.size = 36 := hs; omega
  rw [Array.getElem?_eq_getElem hlt] at h1
  simp only [Option.map_some, Option.some.injEq] at h1
  unfold B
  rw [← h1]
  rfl

theorem zeros65 : Tryz.zeroCells245.toList = List.replicate 65 (.int .u8 0) := by kernel_rfl
theorem set_mid {zs tl : List Value} {k : Nat} {x : Value} (hk : zs.length = k + 1) : (zs ++ tl).set k x = zs.take k ++ x :: tl := by
  rw [List.set_append_left _ _ (by omega), List.set_eq_take_append_cons_drop, if_pos (by omega), List.append_assoc, List.cons_append, List.drop_eq_nil_of_le (by omega), List.nil_append]

set_option maxHeartbeats 1600000 in
set_option maxRecDepth 100000 in
theorem formatBits16 (u : Nat) (w : World) (hu64 : u < 18446744073709551616) (ht : Hid (Tab2 w)) :
    Calls Tryz.prog 153 #[.slice none 0 0, .int .u64 u, .int .i64 16, .bool false, .bool false] w fun e w' => e = .returned (.tuple #[.slice none 0 0, .string ⟨(digL 16 u).toArray⟩]) ∧ Below w.heap.size w w' := by
  obtain ⟨base, hbase⟩ : ∃ b, w.heap.size = b := ⟨_, rfl⟩
  have ho0 := World.ownsRow_lit (base := base) (e := 245) (size := 1) w Tryz.zeroCells245 65 (by omega) (by unfold maxLen; omega) (by kernel_rfl)
  rw [hbase, zeros65] at ho0
  have hb0 : Below base w (w.alloc (.cells Tryz.zeroCells245 245)) := (Below.refl _ _).alloc (by omega) _
  have hbw : Below w.heap.size w (w.alloc (.cells Tryz.zeroCells245 245)) := (Below.refl _ _).alloc (by omega) _
  have HB0 := hide hb0
  have HTW := hide (tab_below_any ht.out hbw)
  have HB := hide hbase
  have hsl : Hid (∀ (W : World) (k : Nat), k ≤ 65 → (Instr.sliceAt 245 (.pointer (some ⟨base, 0, none⟩)) (some (.int .i64 (k : Int))) none none).run Tryz.prog W = .ok (.slice (if (65 : Nat) = k then some ⟨base, 0, none⟩ else some ⟨base, k, none⟩) (65 - k) (65 - k)) W) := by
    intro W k hk
    have hal : Tryz.prog.arrayLen 245 = 65 := by kernel_rfl
    have hun : Tryz.prog.underlying 245 = some (.array (Tryz.prog.arrayLen 245) (Tryz.prog.elem 245)) := by rw [Tryz.underlying245]; kernel_rfl
    rw [run_sliceAt_array_l W 245 ⟨base, 0, none⟩ hun .i64 (k : Int) (by omega) (by rw [hal]; omega)]
    clear hun hal
    go_simp
    by_cases h65 : 65 = k
    · subst h65; rfl
    · rw [if_neg h65, if_neg h65]
  clear hb0 hbw
  go_enter Tryz.func153, Tryz.ntmps153
  go_name_bytes S0 hS0
  clear hS0
  go_name_bytes SM hSM
  have eSM : SM = Lib.digits36 := by rw [← hSM]; decide +kernel
  subst eSM
  clear hSM
  go_wp2_with fail
  refine (pow2_16 _).mono ?_; rintro e w' ⟨rfl, rfl⟩
  go_wp2_with fail
  refine (tz_16 _ HTW).mono ?_; rintro e w' ⟨rfl, rfl⟩
  go_wp2_with fail
  clear hbase
  generalize w.alloc (.cells Tryz.zeroCells245 245) = w1 at ho0 HB0 HTW ⊢
  have HO0 := hide ho0; clear ho0 HTW
  go_loopw [1, 13] (fun vu vi w2 => ∃ (v j : Nat) (zs : List Value) (tl : List UInt8), vu = .int .u64 v ∧ vi = .int .i64 ((65 - j : Nat) : Int) ∧ j ≤ 15 ∧ Hid (zs.length = 65 - j ∧ v * 16 ^ j ≤ u ∧ v ≤ u ∧ digL 16 u = digL 16 v ++ tl ∧ tl.length = j) ∧ Hid (w2.ownsRow base 245 1 (.slice (some ⟨base, 0, none⟩) 65 65) 65 (zs ++ tl.map B)) ∧ Hid (Below base w w2)) (fun vu _ _ => (intOf vu).toNat)
  case atStart => exact ⟨u, 0, List.replicate 65 (.int .u8 0), [], rfl, rfl, by omega, ⟨by simp, by simp, Nat.le_refl _, by simp, rfl⟩, by simpa using HO0, HB0⟩
  case round =>
    obtain ⟨v, j, zs, tl, rfl, rfl, hj, hq, ho, hb⟩ := hrel
    obtain ⟨i, hi⟩ : ∃ i, 65 - j = i + 1 := ⟨64 - j, by omega⟩
    have hvb : v ≤ 18446744073709551615 := by have := hq.out.2.2.1; omega
    rw [hi]
    have hii : ((i + 1 : Nat) : Int) = (i : Int) + 1 := by omega
    have hfr := ho.out.frozenAt i
    have hi64 : i ≤ 64 := by omega
    obtain ⟨x0, hx0⟩ : ∃ x0, (zs ++ tl.map B)[i]? = some x0 := ⟨_, List.getElem?_eq_getElem (by rw [List.length_append, List.length_map, hq.out.1, hq.out.2.2.2.2]; omega)⟩
    have hc := (ho.out.cellAt i (by omega)).trans hx0
    have hand : bits .and .u64 (v : Int) 15 = (v : Int) % 16 := by
      have := u64_and_nat v 15 (by omega) (by omega)
      rw [show (15 : Nat) = 2 ^ 4 - 1 from rfl, Nat.and_two_pow_sub_one_eq_mod, Int.natCast_emod] at this
      exact this
    clear hx0
    by_cases hge : 16 ≤ v
    · have hix : ∀ W, (Instr.index 9 (.string Lib.digits36) (.int .u64 ((v : Int) % 16))).run Tryz.prog W = .ok (.int .u8 ((digC (v % 16)).toNat : Int)) W := by
        have := idx_digits _ Tryz.underlying9 .u64 (v % 16) (Nat.mod_lt _ (by omega))
        rw [Int.natCast_emod] at this
        exact this
      go_wp2_with fail
      go_roundw
      case rel =>
        refine ⟨v / 16, j + 1, zs.take i, digC (v % 16) :: tl, int_congr (by omega), int_congr (by omega), ?_, ?_, ?_, hb.out.setCell (by show base ≤ base; omega) _⟩
        · have h1 := hq.out.2.1
          apply Decidable.byContradiction
          intro hn
          have h2 : 16 ^ 15 ≤ 16 ^ j := Nat.pow_le_pow_right (by omega) (by omega)
          have h3 : 16 * 16 ^ 15 ≤ v * 16 ^ j := Nat.mul_le_mul hge h2
          simp only [Nat.reducePow] at h3
          omega
        · obtain ⟨q1, q2, q3, q4, q5⟩ := hq.out
          refine ⟨by rw [List.length_take, q1]; omega, ?_, by omega, ?_, by rw [List.length_cons, q5]⟩
          · rw [Nat.pow_succ, Nat.mul_comm (16 ^ j), ← Nat.mul_assoc]
            exact Nat.le_trans (Nat.mul_le_mul_right _ (by omega)) q2
          · rw [q4, digL_big (by omega) hge, List.append_assoc, List.singleton_append]
        · have h := (ho.out.stored i (B (digC (v % 16)))).1
          rw [set_mid (by rw [hq.out.1, hi])] at h
          show World.ownsRow _ _ _ _ _ _ _
          exact h
      case measure => simp [intOf]; omega
    · have hlt : v < 16 := by omega
      have hix : ∀ W, (Instr.index 9 (.string Lib.digits36) (.int .u64 (v : Int))).run Tryz.prog W = .ok (.int .u8 ((digC v).toNat : Int)) W := idx_digits _ Tryz.underlying9 .u64 v hlt
      have hsl2 := fun W => hsl.out W i (by omega)
      have ho2 := hide (ho.out.stored i (B (digC v))).1
      have hb2 := hide (hb.out.setCell (p := ⟨base, i, none⟩) (by show base ≤ base; omega) (B (digC v)))
      clear hge
      have hn65 : ¬ 65 = i := by omega
      have hrd : Reads (wr.setCell ⟨base, i, none⟩ (.int .u8 ((digC v).toNat : Int))) (wr.setCell ⟨base, i, none⟩ (.int .u8 ((digC v).toNat : Int))).heap.size 1 (some ⟨base, i, none⟩) (digL 16 u).length ((digL 16 u).map B) := by
        obtain ⟨q1, q2, q3, q4, q5⟩ := hq.out
        have h := ho2.out
        rw [set_mid (by rw [q1, hi])] at h
        have h := (Reads.of_own h).cut (k := i) (cap := 65) (by omega) (by omega)
        rw [if_neg hn65, Nat.mul_one, List.drop_append_of_le_length (by rw [List.length_take, q1]; omega), List.drop_eq_nil_of_le (by rw [List.length_take, q1]; omega), List.nil_append] at h
        have hl : (digL 16 u).map B = B (digC v) :: tl.map B := by rw [q4, digL_small hlt]; rfl
        have hll : (digL 16 u).length = 65 - i := by rw [q4, digL_small hlt, List.length_append, q5]; simp; omega
        rw [hl, hll]
        have ha : (Option.map (fun x : Addr => x.add i) (some ⟨base, 0, none⟩)) = some ⟨base, i, none⟩ := by
          show some ((⟨base, 0, none⟩ : Addr).add i) = _
          rw [Lib.add_plain, Nat.zero_add]
        rw [ha] at h
        exact h
      have hcv := run_string_reads (P := Tryz.prog) 39 9 5 (65 - i) Tryz.underlying39 Tryz.underlying5 Tryz.underlying9 hrd
      rw [show (digL 16 u).length = 65 - i from by rw [hq.out.2.2.2.1, digL_small hlt, List.length_append, hq.out.2.2.2.2]; simp; omega] at hcv
      clear hrd
      go_wp2_with fail
      go_ret2
      exact ⟨rfl, by rw [HB.out]; exact hb2.out⟩

set_option maxHeartbeats 800000 in
theorem formatUint16 (u : Nat) (w : World) (hu64 : u < 18446744073709551616) (ht : Hid (Tab2 w)) : Calls Tryz.prog 125 #[.int .u64 u, .int .i64 16] w (SaysP w (digL 16 u)) := by
  have H := hide (formatBits16 u w hu64 ht)
  go_enter Tryz.func125, Tryz.ntmps125
  go_wp2_with fail
  refine H.out.mono ?_; rintro e w' ⟨rfl, hb⟩
  have HB := hide hb; clear hb
  go_wp2_with fail
  go_ret
  exact ⟨rfl, HB.out⟩

/-- strconv.FormatUint, in tens, and by 16 -/
theorem fmtU10 (u : Nat) (w : World) (hu64 : u < 18446744073709551616) (ht : Hid (LaidC w)) : Calls Tryz.prog 98 #[.int .u64 u, .int .i64 10] w (SaysP w (digL 10 u)) := by
  have H := hide (formatUint10 u w hu64 ht.out.p10)
  rw [decDigits_digL] at H
  go_enter Tryz.func98, Tryz.ntmps98
  go_wp2_with fail
  refine H.out.mono ?_; rintro e w' ⟨rfl, hb⟩
  have HB := hide hb; clear hb
  go_wp2_with fail
  go_ret
  exact ⟨rfl, HB.out⟩
theorem fmtU16 (u : Nat) (w : World) (hu64 : u < 18446744073709551616) (ht : Hid (LaidC w)) : Calls Tryz.prog 98 #[.int .u64 u, .int .i64 16] w (SaysP w (digL 16 u)) := by
  have H := hide (formatUint16 u w hu64 ht.out.db)
  go_enter Tryz.func98, Tryz.ntmps98
  go_wp2_with fail
  refine H.out.mono ?_; rintro e w' ⟨rfl, hb⟩
  have HB := hide hb; clear hb
  go_wp2_with fail
  go_ret
  exact ⟨rfl, HB.out⟩
theorem fmtI10 (n : Int) (w : World) (h0 : -9223372036854775808 ≤ n) (h1 : n ≤ 9223372036854775807) (ht : Hid (LaidC w)) : Calls Tryz.prog 99 #[.int .i64 n, .int .i64 10] w (SaysP w (Lib.itoa n)) := by
  refine (Tryz.strconv_FormatInt_10 n h0 h1 w ht.out.p10).mono ?_
  rintro e w' ⟨rfl, k, os, rfl⟩
  exact ⟨rfl, Go.Lib.below_grow w.heap.size w (Nat.le_refl _) k os⟩
end Go.Proofs.YtpanlhbdphobdaaGreatDoor

namespace Go.Proofs.YtpanlhbdphobdaaGreatDoor
open Go.RowKit Go.Sort
set_option linter.unusedVariables false

/-- what reading by 16 answers: whatever it is, a number's own text is read as it -/
def Parse16 (w : World) (bs : List UInt8) (e : Ending) (w' : World) : Prop :=
  ∃ (v : Nat) (er : Value), e = .returned (.tuple #[.int .u64 v, er]) ∧ v ≤ 18446744073709551615 ∧ (er = .nilIface ∨ er = .iface 200 (.int .i64 1) ∨ er = .iface 200 (.int .i64 2)) ∧
    (∀ m, m < 2 ^ 64 → bs = digL 16 m → er = .nilIface ∧ v = m) ∧ Below w.heap.size w w'

theorem digL_get {b : Nat} (hb : 2 ≤ b) : ∀ m : Nat, m < b ^ (digL b m).length ∧ ∀ k, k < (digL b m).length → (digL b m)[k]? = some (digC (m / b ^ ((digL b m).length - 1 - k) % b)) := by
  intro m
  induction m using Nat.strongRecOn with
  | _ m ih =>
    by_cases h : m < b
    · rw [digL_small h]
      refine ⟨by simpa using h, fun k hk => ?_⟩
      have hk0 : k = 0 := by simpa using hk
      subst hk0
      simp [Nat.mod_eq_of_lt h]
    · obtain ⟨h1, h2⟩ := ih (m / b) (Nat.div_lt_self (by omega) (by omega))
      rw [digL_big hb (by omega)]
      generalize digL b (m / b) = l at h1 h2
      simp only [List.length_append, List.length_singleton]
      refine ⟨?_, fun k hk => ?_⟩
      · rw [Nat.pow_succ]
        exact (Nat.div_lt_iff_lt_mul (by omega)).1 h1
      · by_cases hkl : k < l.length
        · rw [List.getElem?_append_left hkl, h2 k hkl, Nat.div_div_eq_div_mul, show l.length + 1 - 1 - k = (l.length - 1 - k) + 1 from by omega, Nat.pow_succ, Nat.mul_comm b]
        · have hke : k = l.length := by omega
          subst hke
          rw [List.getElem?_append_right (Nat.le_refl _)]
          simp

/-- what is known of the number gathered -/
def In16 (bs : List UInt8) (k acc : Nat) : Prop := ∀ m, m < 2 ^ 64 → bs = digL 16 m → acc = m / 16 ^ (bs.length - k)
theorem In16.start (bs : List UInt8) : In16 bs 0 0 := by
  intro m _ hm
  have := (digL_get (b := 16) (by omega) m).1
  rw [← hm] at this
  rw [Nat.sub_zero, Nat.div_eq_of_lt this]
theorem In16.step {bs : List UInt8} {k acc : Nat} {c : UInt8} (h : In16 bs k acc) (hk : k < bs.length) (hc : bs[k]? = some c) : ∀ m, m < 2 ^ 64 → bs = digL 16 m → dvC c < 16 ∧ acc * 16 + dvC c = m / 16 ^ (bs.length - (k + 1)) ∧ acc * 16 + dvC c ≤ m := by
  intro m hm he
  have h1 := h m hm he
  have h2 := (digL_get (b := 16) (by omega) m).2 k (by rw [← he]; exact hk)
  rw [← he, hc] at h2
  injection h2 with h2
  have hd : dvC c = m / 16 ^ (bs.length - 1 - k) % 16 := by rw [h2, dv_digC _ (Nat.mod_lt _ (by omega))]
  have hp : bs.length - k = (bs.length - 1 - k) + 1 := by omega
  rw [hp, Nat.pow_succ, ← Nat.div_div_eq_div_mul] at h1
  have he2 : bs.length - (k + 1) = bs.length - 1 - k := by omega
  rw [he2]
  have hq : acc * 16 + dvC c = m / 16 ^ (bs.length - 1 - k) := by rw [h1, hd]; omega
  exact ⟨by rw [hd]; exact Nat.mod_lt _ (by omega), hq, by rw [hq]; exact Nat.div_le_self _ _⟩
theorem Parse16.bad {w w' : World} {bs : List UInt8} {e : Ending} {er : Value} (v : Nat) (he : e = .returned (.tuple #[.int .u64 v, er])) (hv : v ≤ 18446744073709551615) (hr : er = .iface 200 (.int .i64 1) ∨ er = .iface 200 (.int .i64 2)) (hn : ∀ m, m < 2 ^ 64 → bs ≠ digL 16 m) (hb : Below w.heap.size w w') : Parse16 w bs e w' :=
  ⟨v, er, he, hv, .inr hr, fun m hm h => absurd h (hn m hm), hb⟩
theorem dv_high {c : UInt8} (h1 : ¬ (48 ≤ c.toNat ∧ c.toNat ≤ 57)) (h2 : ¬ (97 ≤ c.toNat ∧ c.toNat ≤ 102)) : ¬ dvC c < 16 := by
  unfold dvC
  rw [if_neg h1, if_neg h2]
  omega
theorem or32 (c : UInt8) : bits .or .u8 (c.toNat : Int) 32 = ((c.toNat ||| 32 : Nat) : Int) := by
  have := u8_or_nat c.toNat 32 (by have := c.toNat_lt; omega) (by omega)
  exact this
theorem or32_facts : ∀ c : Fin 256, (c.val ||| 32) ≤ 255 ∧ ((c.val < 48 → (c.val ||| 32) ≤ 63) ∧ (97 ≤ c.val → c.val ≤ 102 → (c.val ||| 32) = c.val)) := by decide +kernel

set_option maxHeartbeats 1600000 in
set_option maxRecDepth 100000 in
theorem parse16_in (bs : List UInt8) (w : World) (hne : bs ≠ []) (hl : bs.length ≤ 1000) :
    Calls Tryz.prog 107 #[.string ⟨bs.toArray⟩, .int .i64 16, .int .i64 64] w (Parse16 w bs) := by
  have hemp : bs.isEmpty = false := by cases bs <;> simp_all
  have hcv := Lib.run_convert_string_bytes (P := Tryz.prog) w 9 39 5 ⟨bs.toArray⟩ (u := .string) Tryz.underlying9 Tryz.underlying39 Tryz.underlying5
  have hsz : (⟨bs.toArray⟩ : ByteArray).size = bs.length := rfl
  rw [hsz] at hcv
  have hB : ∀ j (h : j < bs.length), (Lib.bytesWorld w 5 ⟨bs.toArray⟩).cell? ⟨w.heap.size, j, none⟩ = some (.int .u8 (bs[j].toNat : Int)) := fun j hj => by
    have := Lib.bytesWorld_cell w 5 ⟨bs.toArray⟩ j hj
    rw [this]
    simp [List.getD, List.getElem?_eq_getElem hj]
  have hbw : Below w.heap.size w (Lib.bytesWorld w 5 ⟨bs.toArray⟩) := Lib.bytesWorld_below w 5 ⟨bs.toArray⟩
  generalize Lib.bytesWorld w 5 ⟨bs.toArray⟩ = W1 at hcv hB hbw
  generalize grownCap w bs.length 0 5 = cp at hcv
  have hmv : IntKind.u64.wrap (IntKind.u64.wrap 18446744073709551616 - 1) = 18446744073709551615 := by
    rw [IntKind.wrap_u64, IntKind.wrap_u64]
    decide
  have HBW := hide hbw
  have HBB := hide hB
  clear hbw hsz hB hne
  go_enter Tryz.func107, Tryz.ntmps107
  go_wp2_with fail
  go_loop [12, 13, 101] (fun vu vn vi => ∃ (k acc : Nat) (a : Int), vu = .bool false ∧ vn = .int .u64 a ∧ vi = .int .i64 k ∧ k ≤ bs.length ∧ Hid (a = (acc : Int) ∧ acc < 18446744073709551616 ∧ In16 bs k acc)) (fun _ _ vi => bs.length - (intOf vi).toNat)
  case atStart => exact ⟨0, 0, 0, rfl, rfl, rfl, by omega, rfl, by omega, In16.start bs⟩
  case round =>
    obtain ⟨k, acc, a, rfl, rfl, rfl, hk, hh⟩ := hrel
    obtain ⟨ha, hacc, hin⟩ := hh.out
    clear hh
    have a0 : 0 ≤ a := by omega
    have a1 : a < 18446744073709551616 := by omega
    by_cases hkn : k < bs.length
    · have hc := HBB.out k hkn
      have hget : bs[k]? = some bs[k] := List.getElem?_eq_getElem hkn
      have hst := hin.step hkn hget
      generalize bs[k] = c at hc hst
      have hc256 := c.toNat_lt
      have HST := hide hst
      clear hin hget hst
      by_cases hdig : 48 ≤ c.toNat ∧ c.toNat ≤ 57
      · have hdv : dvC c = c.toNat - 48 := by unfold dvC; rw [if_pos hdig]
        obtain ⟨hd0, hd1⟩ := hdig
        by_cases hcut : 1152921504606846976 ≤ a
        · have hno : ∀ m, m < 2 ^ 64 → bs ≠ digL 16 m := fun m hm he => by
            have := (HST.out m hm he).2.2
            simp only [Nat.reducePow] at hm
            omega
          have HNO := hide hno
          clear hno ha hacc hdv
          go_wp2_with fail
          go_ret2
          exact Parse16.bad 18446744073709551615 rfl (by omega) (.inl rfl) HNO.out HBW.out
        · have hnx : Hid (a * 16 + ((c.toNat : Int) - 48) = ((acc * 16 + dvC c : Nat) : Int) ∧ acc * 16 + dvC c < 18446744073709551616 ∧ In16 bs (k + 1) (acc * 16 + dvC c)) := ⟨by omega, by omega, fun m hm he => (HST.out m hm he).2.1⟩
          have icut : a < 1152921504606846976 := by omega
          have iov : a * 16 + ((c.toNat : Int) - 48) < 18446744073709551616 := by omega
          clear hcut ha hacc hdv
          go_wp2_with fail
          go_round
          case rel => exact ⟨k + 1, acc * 16 + dvC c, a * 16 + ((c.toNat : Int) - 48), rfl, (by first | rfl | (congr 1; omega)), (by first | rfl | (congr 1; omega)), by omega, hnx⟩
          case measure => simp [intOf]; omega
      · obtain ⟨l, hl0⟩ : ∃ l, c.toNat ||| 32 = l := ⟨_, rfl⟩
        have hf := or32_facts ⟨c.toNat, hc256⟩
        simp only at hf
        rw [hl0] at hf
        obtain ⟨hl255, hlo, hsame⟩ := hf
        have hor : bits .or .u8 (c.toNat : Int) 32 = (l : Int) := by rw [or32, hl0]
        have hor95 : bits .or .u8 95 32 = 127 := by decide +kernel
        have hlow := fun W => Tryz.internal_strconv_lower (c.toNat : Int) W
        rw [hor] at hlow
        have HLOW := hide hlow
        have e95 := Bool.eq_false_or_eq_true ((c.toNat : Int) == 95)
        clear hlow hl0
        rcases e95 with e95 | e95
        all_goals
          by_cases hlet : 97 ≤ l ∧ l ≤ 122
          · have hge57 : 57 < c.toNat := by omega
            obtain ⟨hl97, hl122⟩ := hlet
            by_cases h16 : l ≤ 102
            · by_cases hcut : 1152921504606846976 ≤ a
              · have hno : ∀ m, m < 2 ^ 64 → bs ≠ digL 16 m := fun m hm he => by
                  have := (HST.out m hm he).2.2
                  simp only [Nat.reducePow] at hm
                  omega
                have HNO := hide hno
                clear hno ha hacc hlo hsame hdig
                go_wp2_with (refine (HLOW.out _).mono ?_; rintro e w' ⟨rfl, rfl⟩)
                go_ret2
                exact Parse16.bad 18446744073709551615 rfl (by omega) (.inl rfl) HNO.out HBW.out
              · have hnx : Hid (a * 16 + ((l : Int) - 87) = ((acc * 16 + (l - 87) : Nat) : Int) ∧ acc * 16 + (l - 87) < 18446744073709551616 ∧ In16 bs (k + 1) (acc * 16 + (l - 87))) := by
                  refine ⟨by omega, by omega, fun m hm he => ?_⟩
                  obtain ⟨h1, h2, _⟩ := HST.out m hm he
                  have hcl : 97 ≤ c.toNat ∧ c.toNat ≤ 102 := by
                    apply Decidable.byContradiction
                    intro h3
                    exact dv_high hdig h3 h1
                  have hlc := hsame hcl.1 hcl.2
                  have hdv : dvC c = l - 87 := by unfold dvC; rw [if_neg hdig, if_pos hcl]; omega
                  rw [← hdv]
                  exact h2
                have icut : a < 1152921504606846976 := by omega
                have iov : a * 16 + ((l : Int) - 87) < 18446744073709551616 := by omega
                clear hcut ha hacc hlo hsame hdig
                go_wp2_with (refine (HLOW.out _).mono ?_; rintro e w' ⟨rfl, rfl⟩)
                go_round
                case rel => exact ⟨k + 1, acc * 16 + (l - 87), a * 16 + ((l : Int) - 87), rfl, (congrArg (Value.int .u64) (by omega)), (by first | rfl | (congr 1; omega)), by omega, hnx⟩
                case measure => simp [intOf]; omega
            · have hno : ∀ m, m < 2 ^ 64 → bs ≠ digL 16 m := fun m hm he => by
                refine dv_high hdig (fun h3 => ?_) (HST.out m hm he).1
                have := hsame h3.1 h3.2
                omega
              have HNO := hide hno
              have h103 : 103 ≤ l := by omega
              clear hno ha hacc hlo hsame hdig h16
              go_wp2_with (refine (HLOW.out _).mono ?_; rintro e w' ⟨rfl, rfl⟩)
              go_ret2
              exact Parse16.bad 0 rfl (by omega) (.inr rfl) HNO.out HBW.out
          · have hno : ∀ m, m < 2 ^ 64 → bs ≠ digL 16 m := fun m hm he => by
              refine dv_high hdig (fun h3 => ?_) (HST.out m hm he).1
              have := hsame h3.1 h3.2
              omega
            have HNO := hide hno
            clear hno ha hacc hsame
            rcases Nat.lt_or_ge c.toNat 48 with hc48 | hc48
            · have hl63 := hlo hc48
              clear hlo hdig hlet
              go_wp2_with (refine (HLOW.out _).mono ?_; rintro e w' ⟨rfl, rfl⟩)
              go_ret2
              exact Parse16.bad 0 rfl (by omega) (.inr rfl) HNO.out HBW.out
            · have hc57 : 57 < c.toNat := by omega
              clear hlo hdig
              rcases Nat.lt_or_ge l 97 with hl97 | hl97
              · clear hlet
                go_wp2_with (refine (HLOW.out _).mono ?_; rintro e w' ⟨rfl, rfl⟩)
                go_ret2
                exact Parse16.bad 0 rfl (by omega) (.inr rfl) HNO.out HBW.out
              · have hl122 : 122 < l := by omega
                clear hlet
                go_wp2_with (refine (HLOW.out _).mono ?_; rintro e w' ⟨rfl, rfl⟩)
                go_ret2
                exact Parse16.bad 0 rfl (by omega) (.inr rfl) HNO.out HBW.out
    · have hkk : k = bs.length := by omega
      subst hkk
      subst ha
      have hfin : Hid (∀ m, m < 2 ^ 64 → bs = digL 16 m → acc = m) := fun m hm he => by
        have := hin m hm he
        rw [Nat.sub_self, Nat.pow_zero, Nat.div_one] at this
        exact this
      have hle : acc ≤ 18446744073709551615 := by omega
      have HLE := hide hle
      clear hin hacc a0 a1 hle
      go_wp2_with fail
      go_ret2
      exact ⟨acc, .nilIface, rfl, HLE.out, .inl rfl, fun m hm he => ⟨rfl, hfin.out m hm he⟩, HBW.out⟩
end Go.Proofs.YtpanlhbdphobdaaGreatDoor
