/-
  strconv: texts of numbers by 16, read: contracts.
  strconv: texts of numbers, read: the public functions' contracts.
-/
import Derived.Test.YtpanlhbdphobdaaGreatDoorApBG
namespace Go.Proofs.YtpanlhbdphobdaaGreatDoor
open Go.RowKit Go.Sort
set_option linter.unusedVariables false

/-- what reading by 16 answers: whatever it is, a number's own text is read as it -/
def Parse16 (w : World) (bs : List UInt8) (e : Ending) (w' : World) : Prop :=
  ∃ (v : Nat) (er : Value), e = .returned (.tuple #[.int .u64 v, er]) ∧ v ≤ 18446744073709551615 ∧ (er = .nilIface ∨ er = .iface 200 (.int .i64 1) ∨ er = .iface 200 (.int .i64 2)) ∧
    (∀ m, m < 2 ^ 64 → bs = digL 16 m → er = .nilIface ∧ v = m) ∧ Below w.heap.size w w'

theorem digL_get {b : Nat} (hb : 2 ≤ b) : ∀ m : Nat, m < b ^ (digL b m).length ∧ ∀ k, k < (digL b m).length → (digL b m)[k]? = some (digC (m / b ^ ((digL b m).length - 1 - k) % b)) := by
  intro m
  induction m using Nat.strongRecOn with
  | _ m ih =>
    by_cases h : m < b
    · rw [digL_small h]
      refine ⟨by simpa using h, fun k hk => ?_⟩
      have hk0 : k = 0 := by simpa using hk
      subst hk0
      simp [Nat.mod_eq_of_lt h]
    · obtain ⟨h1, h2⟩ := ih (m / b) (Nat.div_lt_self (by omega) (by omega))
      rw [digL_big hb (by omega)]
      generalize digL b (m / b) = l at h1 h2
      simp only [List.length_append, List.length_singleton]
      refine ⟨?_, fun k hk => ?_⟩
      · rw [Nat.pow_succ]
        exact (Nat.div_lt_iff_lt_mul (by omega)).1 h1
      · by_cases hkl : k < l.length
        · rw [List.getElem?_append_left hkl, h2 k hkl, Nat.div_div_eq_div_mul, show l.length + 1 - 1 - k = (l.length - 1 - k) + 1 from by omega, Nat.pow_succ, Nat.mul_comm b]
        · have hke : k = l.length := by omega
          subst hke
          rw [List.getElem?_append_right (Nat.le_refl _)]
          simp

/-- what is known of the number gathered -/
def In16 (bs : List UInt8) (k acc : Nat) : Prop := ∀ m, m < 2 ^ 64 → bs = digL 16 m → acc = m / 16 ^ (bs.length - k)
theorem In16.start (bs : List UInt8) : In16 bs 0 0 := by
  intro m _ hm
  have := (digL_get (b := 16) (by omega) m).1
  rw [← hm] at this
  rw [Nat.sub_zero, Nat.div_eq_of_lt this]
theorem In16.step {bs : List UInt8} {k acc : Nat} {c : UInt8} (h : In16 bs k acc) (hk : k < bs.length) (hc : bs[k]? = some c) : ∀ m, m < 2 ^ 64 → bs = digL 16 m → dvC c < 16 ∧ acc * 16 + dvC c = m / 16 ^ (bs.length - (k + 1)) ∧ acc * 16 + dvC c ≤ m := by
  intro m hm he
  have h1 := h m hm he
  have h2 := (digL_get (b := 16) (by omega) m).2 k (by rw [← he]; exact hk)
  rw [← he, hc] at h2
  injection h2 with h2
  have hd : dvC c = m / 16 ^ (bs.length - 1 - k) % 16 := by rw [h2, dv_digC _ (Nat.mod_lt _ (by omega))]
  have hp : bs.length - k = (bs.length - 1 - k) + 1 := by omega
  rw [hp, Nat.pow_succ, ← Nat.div_div_eq_div_mul] at h1
  have he2 : bs.length - (k + 1) = bs.length - 1 - k := by omega
  rw [he2]
  have hq : acc * 16 + dvC c = m / 16 ^ (bs.length - 1 - k) := by rw [h1, hd]; omega
  exact ⟨by rw [hd]; exact Nat.mod_lt _ (by omega), hq, by rw [hq]; exact Nat.div_le_self _ _⟩
theorem Parse16.bad {w w' : World} {bs : List UInt8} {e : Ending} {er : Value} (v : Nat) (he : e = .returned (.tuple #[.int .u64 v, er])) (hv : v ≤ 18446744073709551615) (hr : er = .iface 200 (.int .i64 1) ∨ er = .iface 200 (.int .i64 2)) (hn : ∀ m, m < 2 ^ 64 → bs ≠ digL 16 m) (hb : Below w.heap.size w w') : Parse16 w bs e w' :=
  ⟨v, er, he, hv, .inr hr, fun m hm h => absurd h (hn m hm), hb⟩
theorem dv_high {c : UInt8} (h1 : ¬ (48 ≤ c.toNat ∧ c.toNat ≤ 57)) (h2 : ¬ (97 ≤ c.toNat ∧ c.toNat ≤ 102)) : ¬ dvC c < 16 := by
  unfold dvC
  rw [if_neg h1, if_neg h2]
  omega
theorem or32 (c : UInt8) : bits .or .u8 (c.toNat : Int) 32 = ((c.toNat ||| 32 : Nat) : Int) := by
  have := u8_or_nat c.toNat 32 (by have := c.toNat_lt; omega) (by omega)
  exact this
theorem or32_facts : ∀ c : Fin 256, (c.val ||| 32) ≤ 255 ∧ ((c.val < 48 → (c.val ||| 32) ≤ 63) ∧ (97 ≤ c.val → c.val ≤ 102 → (c.val ||| 32) = c.val)) := by decide +kernel

set_option maxHeartbeats 1600000 in
set_option maxRecDepth 100000 in
theorem parse16_in (bs : List UInt8) (w : World) (hne : bs ≠ []) (hl : bs.length ≤ 1000) :
    Calls Tryz.prog 107 #[.string ⟨bs.toArray⟩, .int .i64 16, .int .i64 64] w (Parse16 w bs) := by
  have hemp : bs.isEmpty = false := by cases bs <;> simp_all
  have hcv := Lib.run_convert_string_bytes (P := Tryz.prog) w 9 39 5 ⟨bs.toArray⟩ (u := .string) Tryz.underlying9 Tryz.underlying39 Tryz.underlying5
  have hsz : (⟨bs.toArray⟩ : ByteArray).size = bs.length := rfl
  rw [hsz] at hcv
  have hB : ∀ j (h : j < bs.length), (Lib.bytesWorld w 5 ⟨bs.toArray⟩).cell? ⟨w.heap.size, j, none⟩ = some (.int .u8 (bs[j].toNat : Int)) := fun j hj => by
    have := Lib.bytesWorld_cell w 5 ⟨bs.toArray⟩ j hj
    rw [this]
    simp [List.getD, List.getElem?_eq_getElem hj]
  have hbw : Below w.heap.size w (Lib.bytesWorld w 5 ⟨bs.toArray⟩) := Lib.bytesWorld_below w 5 ⟨bs.toArray⟩
  generalize Lib.bytesWorld w 5 ⟨bs.toArray⟩ = W1 at hcv hB hbw
  generalize grownCap w bs.length 0 5 = cp at hcv
  have hmv : IntKind.u64.wrap (IntKind.u64.wrap 18446744073709551616 - 1) = 18446744073709551615 := by
    rw [IntKind.wrap_u64, IntKind.wrap_u64]
    decide
  have HBW := hide hbw
  have HBB := hide hB
  clear hbw hsz hB hne
  go_enter Tryz.func107, Tryz.ntmps107
  go_wp2_with fail
  go_loop [12, 13, 101] (fun vu vn vi => ∃ (k acc : Nat) (a : Int), vu = .bool false ∧ vn = .int .u64 a ∧ vi = .int .i64 k ∧ k ≤ bs.length ∧ Hid (a = (acc : Int) ∧ acc < 18446744073709551616 ∧ In16 bs k acc)) (fun _ _ vi => bs.length - (intOf vi).toNat)
  case atStart => exact ⟨0, 0, 0, rfl, rfl, rfl, by omega, rfl, by omega, In16.start bs⟩
  case round =>
    obtain ⟨k, acc, a, rfl, rfl, rfl, hk, hh⟩ := hrel
    obtain ⟨ha, hacc, hin⟩ := hh.out
    clear hh
    have a0 : 0 ≤ a := by omega
    have a1 : a < 18446744073709551616 := by omega
    by_cases hkn : k < bs.length
    · have hc := HBB.out k hkn
      have hget : bs[k]? = some bs[k] := List.getElem?_eq_getElem hkn
      have hst := hin.step hkn hget
      generalize bs[k] = c at hc hst
      have hc256 := c.toNat_lt
      have HST := hide hst
      clear hin hget hst
      by_cases hdig : 48 ≤ c.toNat ∧ c.toNat ≤ 57
      · have hdv : dvC c = c.toNat - 48 := by unfold dvC; rw [if_pos hdig]
        obtain ⟨hd0, hd1⟩ := hdig
        by_cases hcut : 1152921504606846976 ≤ a
        · have hno : ∀ m, m < 2 ^ 64 → bs ≠ digL 16 m := fun m hm he => by
            have := (HST.out m hm he).2.2
            simp only [Nat.reducePow] at hm
            omega
          have HNO := hide hno
          clear hno ha hacc hdv
          go_wp2_with fail
          go_ret2
          exact Parse16.bad 18446744073709551615 rfl (by omega) (.inl rfl) HNO.out HBW.out
        · have hnx : Hid (a * 16 + ((c.toNat : Int) - 48) = ((acc * 16 + dvC c : Nat) : Int) ∧ acc * 16 + dvC c < 18446744073709551616 ∧ In16 bs (k + 1) (acc * 16 + dvC c)) := ⟨by omega, by omega, fun m hm he => (HST.out m hm he).2.1⟩
          have icut : a < 1152921504606846976 := by omega
          have iov : a * 16 + ((c.toNat : Int) - 48) < 18446744073709551616 := by omega
          clear hcut ha hacc hdv
          go_wp2_with fail
          go_round
          case rel => exact ⟨k + 1, acc * 16 + dvC c, a * 16 + ((c.toNat : Int) - 48), rfl, (by first | rfl | (congr 1; omega)), (by first | rfl | (congr 1; omega)), by omega, hnx⟩
          case measure => simp [intOf]; omega
      · obtain ⟨l, hl0⟩ : ∃ l, c.toNat ||| 32 = l := ⟨_, rfl⟩
        have hf := or32_facts ⟨c.toNat, hc256⟩
        simp only at hf
        rw [hl0] at hf
        obtain ⟨hl255, hlo, hsame⟩ := hf
        have hor : bits .or .u8 (c.toNat : Int) 32 = (l : Int) := by rw [or32, hl0]
        have hor95 : bits .or .u8 95 32 = 127 := by decide +kernel
        have hlow := fun W => Tryz.internal_strconv_lower (c.toNat : Int) W
        rw [hor] at hlow
        have HLOW := hide hlow
        have e95 := Bool.eq_false_or_eq_true ((c.toNat : Int) == 95)
        clear hlow hl0
        rcases e95 with e95 | e95
        all_goals
          by_cases hlet : 97 ≤ l ∧ l ≤ 122
          · have hge57 : 57 < c.toNat := by omega
            obtain ⟨hl97, hl122⟩ := hlet
            by_cases h16 : l ≤ 102
            · by_cases hcut : 1152921504606846976 ≤ a
              · have hno : ∀ m, m < 2 ^ 64 → bs ≠ digL 16 m := fun m hm he => by
                  have := (HST.out m hm he).2.2
                  simp only [Nat.reducePow] at hm
                  omega
                have HNO := hide hno
                clear hno ha hacc hlo hsame hdig
                go_wp2_with (refine (HLOW.out _).mono ?_; rintro e w' ⟨rfl, rfl⟩)
                go_ret2
                exact Parse16.bad 18446744073709551615 rfl (by omega) (.inl rfl) HNO.out HBW.out
              · have hnx : Hid (a * 16 + ((l : Int) - 87) = ((acc * 16 + (l - 87) : Nat) : Int) ∧ acc * 16 + (l - 87) < 18446744073709551616 ∧ In16 bs (k + 1) (acc * 16 + (l - 87))) := by
                  refine ⟨by omega, by omega, fun m hm he => ?_⟩
                  obtain ⟨h1, h2, _⟩ := HST.out m hm he
                  have hcl : 97 ≤ c.toNat ∧ c.toNat ≤ 102 := by
                    apply Decidable.byContradiction
                    intro h3
                    exact dv_high hdig h3 h1
                  have hlc := hsame hcl.1 hcl.2
                  have hdv : dvC c = l - 87 := by unfold dvC; rw [if_neg hdig, if_pos hcl]; omega
                  rw [← hdv]
                  exact h2
                have icut : a < 1152921504606846976 := by omega
                have iov : a * 16 + ((l : Int) - 87) < 18446744073709551616 := by omega
                clear hcut ha hacc hlo hsame hdig
                go_wp2_with (refine (HLOW.out _).mono ?_; rintro e w' ⟨rfl, rfl⟩)
                go_round
                case rel => exact ⟨k + 1, acc * 16 + (l - 87), a * 16 + ((l : Int) - 87), rfl, (congrArg (Value.int .u64) (by omega)), (by first | rfl | (congr 1; omega)), by omega, hnx⟩
                case measure => simp [intOf]; omega
            · have hno : ∀ m, m < 2 ^ 64 → bs ≠ digL 16 m := fun m hm he => by
                refine dv_high hdig (fun h3 => ?_) (HST.out m hm he).1
                have := hsame h3.1 h3.2
                omega
              have HNO := hide hno
              have h103 : 103 ≤ l := by omega
              clear hno ha hacc hlo hsame hdig h16
              go_wp2_with (refine (HLOW.out _).mono ?_; rintro e w' ⟨rfl, rfl⟩)
              go_ret2
              exact Parse16.bad 0 rfl (by omega) (.inr rfl) HNO.out HBW.out
          · have hno : ∀ m, m < 2 ^ 64 → bs ≠ digL 16 m := fun m hm he => by
              refine dv_high hdig (fun h3 => ?_) (HST.out m hm he).1
              have := hsame h3.1 h3.2
              omega
            have HNO := hide hno
            clear hno ha hacc hsame
            rcases Nat.lt_or_ge c.toNat 48 with hc48 | hc48
            · have hl63 := hlo hc48
              clear hlo hdig hlet
              go_wp2_with (refine (HLOW.out _).mono ?_; rintro e w' ⟨rfl, rfl⟩)
              go_ret2
              exact Parse16.bad 0 rfl (by omega) (.inr rfl) HNO.out HBW.out
            · have hc57 : 57 < c.toNat := by omega
              clear hlo hdig
              rcases Nat.lt_or_ge l 97 with hl97 | hl97
              · clear hlet
                go_wp2_with (refine (HLOW.out _).mono ?_; rintro e w' ⟨rfl, rfl⟩)
                go_ret2
                exact Parse16.bad 0 rfl (by omega) (.inr rfl) HNO.out HBW.out
              · have hl122 : 122 < l := by omega
                clear hlet
                go_wp2_with (refine (HLOW.out _).mono ?_; rintro e w' ⟨rfl, rfl⟩)
                go_ret2
                exact Parse16.bad 0 rfl (by omega) (.inr rfl) HNO.out HBW.out
    · have hkk : k = bs.length := by omega
      subst hkk
      subst ha
      have hfin : Hid (∀ m, m < 2 ^ 64 → bs = digL 16 m → acc = m) := fun m hm he => by
        have := hin m hm he
        rw [Nat.sub_self, Nat.pow_zero, Nat.div_one] at this
        exact this
      have hle : acc ≤ 18446744073709551615 := by omega
      have HLE := hide hle
      clear hin hacc a0 a1 hle
      go_wp2_with fail
      go_ret2
      exact ⟨acc, .nilIface, rfl, HLE.out, .inl rfl, fun m hm he => ⟨rfl, hfin.out m hm he⟩, HBW.out⟩
end Go.Proofs.YtpanlhbdphobdaaGreatDoor

namespace Go.Proofs.YtpanlhbdphobdaaGreatDoor
open Go.RowKit Go.Sort
set_option linter.unusedVariables false

/-- what reading by 16 answers -/
def PU16 (w : World) (bs : List UInt8) (e : Ending) (w' : World) : Prop :=
  ∃ (v : Nat) (er : Value), e = .returned (.tuple #[.int .u64 v, er]) ∧ v ≤ 18446744073709551615 ∧ (er = .nilIface ∨ ∃ t p, er = .iface t p) ∧ (∀ m, m < 2 ^ 64 → bs = digL 16 m → er = .nilIface ∧ v = m) ∧ Below w.heap.size w w'
/-- what reading in tens answers -/
def PU10 (k : Nat) (w : World) (bs : List UInt8) (e : Ending) (w' : World) : Prop :=
  ∃ (v : Nat) (er : Value), e = .returned (.tuple #[.int .u64 v, er]) ∧ v ≤ 18446744073709551615 ∧ ((er = .nilIface ∧ Lib.parseUintB k bs = .ok v) ∨ ((∃ t p, er = .iface t p) ∧ ∀ u, Lib.parseUintB k bs ≠ .ok u)) ∧ Below w.heap.size w w'
def PI10 (k : Nat) (w : World) (bs : List UInt8) (e : Ending) (w' : World) : Prop :=
  ∃ (v : Int) (er : Value), e = .returned (.tuple #[.int .i64 v, er]) ∧ -9223372036854775808 ≤ v ∧ v ≤ 9223372036854775807 ∧ ((er = .nilIface ∧ Lib.parseIntB k bs = .ok v) ∨ ((∃ t p, er = .iface t p) ∧ ∀ u, Lib.parseIntB k bs ≠ .ok u)) ∧ Below w.heap.size w w'

theorem bytesW_below {w w' : World} {e : TypeId} {s : ByteArray} (h : w' = w ∨ w' = Lib.bytesWorld w e s) : Below w.heap.size w w' := by
  rcases h with rfl | rfl
  · exact Below.refl _ _
  · exact Lib.bytesWorld_below _ _ _

set_option maxHeartbeats 800000 in
theorem parseU16 (bs : List UInt8) (w : World) (hl : bs.length ≤ 1000) (ht : Hid (LaidC w)) :
    Calls Tryz.prog 75 #[.string ⟨bs.toArray⟩, .int .i64 16, .int .i64 64] w (PU16 w bs) := by
  have H : Hid (Calls Tryz.prog 107 #[.string ⟨bs.toArray⟩, .int .i64 16, .int .i64 64] w (Parse16 w bs)) := by
    by_cases hne : bs = []
    · subst hne
      refine Calls.mono (Tryz.internal_strconv_ParseUint_empty 16 64 w) ?_
      rintro e w' ⟨rfl, rfl⟩
      exact Parse16.bad 0 rfl (by omega) (.inr rfl) (fun m _ h => digL_ne h.symm) (Below.refl _ _)
    · exact parse16_in bs w hne hl
  have hsz : (⟨bs.toArray⟩ : ByteArray).size ≤ 281474976710656 := by show bs.length ≤ _; omega
  have HSZ := hide hsz; clear hsz
  go_enter Tryz.func75, Tryz.ntmps75
  go_wp2_with fail
  refine H.out.mono ?_; rintro e w1 ⟨v, er, rfl, hv, her, hm, hb⟩
  have HM := hide hm; have HV := hide hv; have HB := hide hb
  have hL := ht.out.below hb
  obtain ⟨ts, ps, hs⟩ := hL.syn
  obtain ⟨tr, pr, hr⟩ := hL.rng
  have HS := hide hs; have HR := hide hr
  clear hm hv hb hL hs hr
  have hnn : er ≠ .nilIface → ∀ m, m < 2 ^ 64 → bs = digL 16 m → False := fun h m h1 h2 => h (HM.out m h1 h2).1
  rcases her with rfl | rfl | rfl
  · clear hnn
    go_wp2_with fail
    go_ret2
    exact ⟨v, .nilIface, rfl, HV.out, .inl rfl, fun m h1 h2 => ⟨rfl, (HM.out m h1 h2).2⟩, HB.out⟩
  · have HN := hnn (by simp)
    clear hnn HM
    go_wp2_with fail
    refine (Tryz.strconv_toError_range _ _ 16 64 _ w1 HSZ.out HR.out (.inr ⟨tr, pr, rfl⟩)).mono ?_; rintro e w2 ⟨N, rfl, _, _, hb2⟩
    have HB2 := hide hb2; clear hb2
    go_wp2_with fail
    go_ret2
    exact ⟨v, _, rfl, HV.out, .inr ⟨_, _, rfl⟩, fun m h1 h2 => (HN m h1 h2).elim, HB.out.trans (HB2.out.mono HB.out.size)⟩
  · have HN := hnn (by simp)
    clear hnn HM
    go_wp2_with fail
    refine (Tryz.strconv_toError_syntax _ _ 16 64 _ w1 HSZ.out HS.out (.inr ⟨ts, ps, rfl⟩)).mono ?_; rintro e w2 ⟨N, rfl, _, _, hb2⟩
    have HB2 := hide hb2; clear hb2
    go_wp2_with fail
    go_ret2
    exact ⟨v, _, rfl, HV.out, .inr ⟨_, _, rfl⟩, fun m h1 h2 => (HN m h1 h2).elim, HB.out.trans (HB2.out.mono HB.out.size)⟩

theorem parseU10_64 (bs : List UInt8) (w : World) (hl : bs.length ≤ 1000) (ht : Hid (LaidC w)) :
    Calls Tryz.prog 75 #[.string ⟨bs.toArray⟩, .int .i64 10, .int .i64 64] w (PU10 64 w bs) := by
  obtain ⟨ts, ps, hs⟩ := ht.out.syn
  obtain ⟨tr, pr, hr⟩ := ht.out.rng
  have hsz : (⟨bs.toArray⟩ : ByteArray).size = bs.length := rfl
  rcases h : Lib.parseUintB 64 bs with u | _ | _
  · refine Calls.mono (Tryz.strconv_ParseUint_10_at64_ok ⟨bs.toArray⟩ (by rw [hsz]; omega) u h w) ?_
    rintro e w' ⟨rfl, hw⟩
    exact ⟨u, _, rfl, by have := Lib.parseUintB_le h; simp at this; omega, .inl ⟨rfl, h⟩, bytesW_below hw⟩
  · refine Calls.mono (Tryz.strconv_ParseUint_10_at64_syntax ⟨bs.toArray⟩ (by rw [hsz]; omega) h _ w hs (.inr ⟨ts, ps, rfl⟩)) ?_
    rintro e w' ⟨N, rfl, _, _, hb⟩
    exact ⟨0, _, rfl, by omega, .inr ⟨⟨_, _, rfl⟩, fun u hu => by rw [h] at hu; cases hu⟩, hb⟩
  · refine Calls.mono (Tryz.strconv_ParseUint_10_at64_range ⟨bs.toArray⟩ (by rw [hsz]; omega) h _ w hr (.inr ⟨tr, pr, rfl⟩)) ?_
    rintro e w' ⟨N, rfl, _, _, hb⟩
    exact ⟨18446744073709551615, _, rfl, by omega, .inr ⟨⟨_, _, rfl⟩, fun u hu => by rw [h] at hu; cases hu⟩, hb⟩
theorem parseU10_32 (bs : List UInt8) (w : World) (hl : bs.length ≤ 1000) (ht : Hid (LaidC w)) :
    Calls Tryz.prog 75 #[.string ⟨bs.toArray⟩, .int .i64 10, .int .i64 32] w (PU10 32 w bs) := by
  obtain ⟨ts, ps, hs⟩ := ht.out.syn
  obtain ⟨tr, pr, hr⟩ := ht.out.rng
  have hsz : (⟨bs.toArray⟩ : ByteArray).size = bs.length := rfl
  rcases h : Lib.parseUintB 32 bs with u | _ | _
  · refine Calls.mono (Tryz.strconv_ParseUint_10_at32_ok ⟨bs.toArray⟩ (by rw [hsz]; omega) u h w) ?_
    rintro e w' ⟨rfl, hw⟩
    exact ⟨u, _, rfl, by have := Lib.parseUintB_le h; simp at this; omega, .inl ⟨rfl, h⟩, bytesW_below hw⟩
  · refine Calls.mono (Tryz.strconv_ParseUint_10_at32_syntax ⟨bs.toArray⟩ (by rw [hsz]; omega) h _ w hs (.inr ⟨ts, ps, rfl⟩)) ?_
    rintro e w' ⟨N, rfl, _, _, hb⟩
    exact ⟨0, _, rfl, by omega, .inr ⟨⟨_, _, rfl⟩, fun u hu => by rw [h] at hu; cases hu⟩, hb⟩
  · refine Calls.mono (Tryz.strconv_ParseUint_10_at32_range ⟨bs.toArray⟩ (by rw [hsz]; omega) h _ w hr (.inr ⟨tr, pr, rfl⟩)) ?_
    rintro e w' ⟨N, rfl, _, _, hb⟩
    exact ⟨4294967295, _, rfl, by omega, .inr ⟨⟨_, _, rfl⟩, fun u hu => by rw [h] at hu; cases hu⟩, hb⟩
theorem bytesW_below' {w w' : World} {e : TypeId} (h : w' = w ∨ ∃ s, w' = Lib.bytesWorld w e s) : Below w.heap.size w w' := by
  rcases h with rfl | ⟨s, rfl⟩
  · exact Below.refl _ _
  · exact Lib.bytesWorld_below _ _ _
theorem intSat_bd (k : Nat) (hk : k = 32 ∨ k = 64) (bs : List UInt8) : -9223372036854775808 ≤ Lib.intSat k bs ∧ Lib.intSat k bs ≤ 9223372036854775807 := by
  unfold Lib.intSat
  rcases hk with rfl | rfl <;> split <;> simp
theorem parseI_bd {k : Nat} (hk : k = 32 ∨ k = 64) {bs : List UInt8} {v : Int} (h : Lib.parseIntB k bs = .ok v) : -9223372036854775808 ≤ v ∧ v ≤ 9223372036854775807 := by
  have := Lib.parseIntB_bounds h
  rcases hk with rfl | rfl <;> simp at this <;> omega
theorem parseI10_64 (bs : List UInt8) (w : World) (hl : bs.length ≤ 1000) (ht : Hid (LaidC w)) :
    Calls Tryz.prog 140 #[.string ⟨bs.toArray⟩, .int .i64 10, .int .i64 64] w (PI10 64 w bs) := by
  obtain ⟨ts, ps, hs⟩ := ht.out.syn
  obtain ⟨tr, pr, hr⟩ := ht.out.rng
  have hsz : (⟨bs.toArray⟩ : ByteArray).size = bs.length := rfl
  rcases h : Lib.parseIntB 64 bs with u | _ | _
  · refine Calls.mono (Tryz.strconv_ParseInt_10_at64_ok ⟨bs.toArray⟩ (by rw [hsz]; omega) u h w) ?_
    rintro e w' ⟨rfl, hw⟩
    exact ⟨u, _, rfl, (parseI_bd (.inr rfl) h).1, (parseI_bd (.inr rfl) h).2, .inl ⟨rfl, h⟩, bytesW_below' hw⟩
  · refine Calls.mono (Tryz.strconv_ParseInt_10_at64_syntax ⟨bs.toArray⟩ (by rw [hsz]; omega) h _ w hs (.inr ⟨ts, ps, rfl⟩)) ?_
    rintro e w' ⟨N, rfl, _, _, hb⟩
    exact ⟨0, _, rfl, by omega, by omega, .inr ⟨⟨_, _, rfl⟩, fun u hu => by rw [h] at hu; cases hu⟩, hb⟩
  · refine Calls.mono (Tryz.strconv_ParseInt_10_at64_range ⟨bs.toArray⟩ (by rw [hsz]; omega) h _ w hr (.inr ⟨tr, pr, rfl⟩)) ?_
    rintro e w' ⟨N, rfl, _, _, hb⟩
    exact ⟨_, _, rfl, (intSat_bd 64 (.inr rfl) bs).1, (intSat_bd 64 (.inr rfl) bs).2, .inr ⟨⟨_, _, rfl⟩, fun u hu => by rw [h] at hu; cases hu⟩, hb⟩
theorem parseI10_32 (bs : List UInt8) (w : World) (hl : bs.length ≤ 1000) (ht : Hid (LaidC w)) :
    Calls Tryz.prog 140 #[.string ⟨bs.toArray⟩, .int .i64 10, .int .i64 32] w (PI10 32 w bs) := by
  obtain ⟨ts, ps, hs⟩ := ht.out.syn
  obtain ⟨tr, pr, hr⟩ := ht.out.rng
  have hsz : (⟨bs.toArray⟩ : ByteArray).size = bs.length := rfl
  rcases h : Lib.parseIntB 32 bs with u | _ | _
  · refine Calls.mono (Tryz.strconv_ParseInt_10_at32_ok ⟨bs.toArray⟩ (by rw [hsz]; omega) u h w) ?_
    rintro e w' ⟨rfl, hw⟩
    exact ⟨u, _, rfl, (parseI_bd (.inl rfl) h).1, (parseI_bd (.inl rfl) h).2, .inl ⟨rfl, h⟩, bytesW_below' hw⟩
  · refine Calls.mono (Tryz.strconv_ParseInt_10_at32_syntax ⟨bs.toArray⟩ (by rw [hsz]; omega) h _ w hs (.inr ⟨ts, ps, rfl⟩)) ?_
    rintro e w' ⟨N, rfl, _, _, hb⟩
    exact ⟨0, _, rfl, by omega, by omega, .inr ⟨⟨_, _, rfl⟩, fun u hu => by rw [h] at hu; cases hu⟩, hb⟩
  · refine Calls.mono (Tryz.strconv_ParseInt_10_at32_range ⟨bs.toArray⟩ (by rw [hsz]; omega) h _ w hr (.inr ⟨tr, pr, rfl⟩)) ?_
    rintro e w' ⟨N, rfl, _, _, hb⟩
    exact ⟨_, _, rfl, (intSat_bd 32 (.inl rfl) bs).1, (intSat_bd 32 (.inl rfl) bs).2, .inr ⟨⟨_, _, rfl⟩, fun u hu => by rw [h] at hu; cases hu⟩, hb⟩
end Go.Proofs.YtpanlhbdphobdaaGreatDoor
