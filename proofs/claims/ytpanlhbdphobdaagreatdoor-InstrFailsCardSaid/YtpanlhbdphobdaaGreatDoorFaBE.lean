/-
  strconv: texts of numbers, read: the public functions' contracts.
-/
import Derived.Test.YtpanlhbdphobdaaGreatDoorFaBD
namespace Go.Proofs.YtpanlhbdphobdaaGreatDoor
open Go.RowKit Go.Sort
set_option linter.unusedVariables false

/-- what reading by 16 answers -/
def PU16 (w : World) (bs : List UInt8) (e : Ending) (w' : World) : Prop :=
  ∃ (v : Nat) (er : Value), e = .returned (.tuple #[.int .u64 v, er]) ∧ v ≤ 18446744073709551615 ∧ (er = .nilIface ∨ ∃ t p, er = .iface t p) ∧ (∀ m, m < 2 ^ 64 → bs = digL 16 m → er = .nilIface ∧ v = m) ∧ Below w.heap.size w w'
/-- what reading in tens answers -/
def PU10 (k : Nat) (w : World) (bs : List UInt8) (e : Ending) (w' : World) : Prop :=
  ∃ (v : Nat) (er : Value), e = .returned (.tuple #[.int .u64 v, er]) ∧ v ≤ 18446744073709551615 ∧ ((er = .nilIface ∧ Lib.parseUintB k bs = .ok v) ∨ ((∃ t p, er = .iface t p) ∧ ∀ u, Lib.parseUintB k bs ≠ .ok u)) ∧ Below w.heap.size w w'
def PI10 (k : Nat) (w : World) (bs : List UInt8) (e : Ending) (w' : World) : Prop :=
  ∃ (v : Int) (er : Value), e = .returned (.tuple #[.int .i64 v, er]) ∧ -9223372036854775808 ≤ v ∧ v ≤ 9223372036854775807 ∧ ((er = .nilIface ∧ Lib.parseIntB k bs = .ok v) ∨ ((∃ t p, er = .iface t p) ∧ ∀ u, Lib.parseIntB k bs ≠ .ok u)) ∧ Below w.heap.size w w'

theorem bytesW_below {w w' : World} {e : TypeId} {s : ByteArray} (h : w' = w ∨ w' = Lib.bytesWorld w e s) : Below w.heap.size w w' := by
  rcases h with rfl | rfl
  · exact Below.refl _ _
  · exact Lib.bytesWorld_below _ _ _

set_option maxHeartbeats 800000 in
theorem parseU16 (bs : List UInt8) (w : World) (hl : bs.length ≤ 1000) (ht : Hid (LaidC w)) :
    Calls Tryz.prog 75 #[.string ⟨bs.toArray⟩, .int .i64 16, .int .i64 64] w (PU16 w bs) := by
  have H : Hid (Calls Tryz.prog 107 #[.string ⟨bs.toArray⟩, .int .i64 16, .int .i64 64] w (Parse16 w bs)) := by
    by_cases hne : bs = []
    · subst hne
      refine Calls.mono (Tryz.internal_strconv_ParseUint_empty 16 64 w) ?_
      rintro e w' ⟨rfl, rfl⟩
      exact Parse16.bad 0 rfl (by omega) (.inr rfl) (fun m _ h => digL_ne h.symm) (Below.refl _ _)
    · exact parse16_in bs w hne hl
  have hsz : (⟨bs.toArray⟩ : ByteArray).size ≤ 281474976710656 := by show bs.length ≤ _; omega
  have HSZ := hide hsz; clear hsz
  go_enter Tryz.func75, Tryz.ntmps75
  go_wp2_with fail
  refine H.out.mono ?_; rintro e w1 ⟨v, er, rfl, hv, her, hm, hb⟩
  have HM := hide hm; have HV := hide hv; have HB := hide hb
  have hL := ht.out.below hb
  obtain ⟨ts, ps, hs⟩ := hL.syn
  obtain ⟨tr, pr, hr⟩ := hL.rng
  have HS := hide hs; have HR := hide hr
  clear hm hv hb hL hs hr
  have hnn : er ≠ .nilIface → ∀ m, m < 2 ^ 64 → bs = digL 16 m → False := fun h m h1 h2 => h (HM.out m h1 h2).1
  rcases her with rfl | rfl | rfl
  · clear hnn
    go_wp2_with fail
    go_ret2
    exact ⟨v, .nilIface, rfl, HV.out, .inl rfl, fun m h1 h2 => ⟨rfl, (HM.out m h1 h2).2⟩, HB.out⟩
  · have HN := hnn (by simp)
    clear hnn HM
    go_wp2_with fail
    refine (Tryz.strconv_toError_range _ _ 16 64 _ w1 HSZ.out HR.out (.inr ⟨tr, pr, rfl⟩)).mono ?_; rintro e w2 ⟨N, rfl, _, _, hb2⟩
    have HB2 := hide hb2; clear hb2
    go_wp2_with fail
    go_ret2
    exact ⟨v, _, rfl, HV.out, .inr ⟨_, _, rfl⟩, fun m h1 h2 => (HN m h1 h2).elim, HB.out.trans (HB2.out.mono HB.out.size)⟩
  · have HN := hnn (by simp)
    clear hnn HM
    go_wp2_with fail
    refine (Tryz.strconv_toError_syntax _ _ 16 64 _ w1 HSZ.out HS.out (.inr ⟨ts, ps, rfl⟩)).mono ?_; rintro e w2 ⟨N, rfl, _, _, hb2⟩
    have HB2 := hide hb2; clear hb2
    go_wp2_with fail
    go_ret2
    exact ⟨v, _, rfl, HV.out, .inr ⟨_, _, rfl⟩, fun m h1 h2 => (HN m h1 h2).elim, HB.out.trans (HB2.out.mono HB.out.size)⟩

theorem parseU10_64 (bs : List UInt8) (w : World) (hl : bs.length ≤ 1000) (ht : Hid (LaidC w)) :
    Calls Tryz.prog 75 #[.string ⟨bs.toArray⟩, .int .i64 10, .int .i64 64] w (PU10 64 w bs) := by
  obtain ⟨ts, ps, hs⟩ := ht.out.syn
  obtain ⟨tr, pr, hr⟩ := ht.out.rng
  have hsz : (⟨bs.toArray⟩ : ByteArray).size = bs.length := rfl
  rcases h : Lib.parseUintB 64 bs with u | _ | _
  · refine Calls.mono (Tryz.strconv_ParseUint_10_at64_ok ⟨bs.toArray⟩ (by rw [hsz]; omega) u h w) ?_
    rintro e w' ⟨rfl, hw⟩
    exact ⟨u, _, rfl, by have := Lib.parseUintB_le h; simp at this; omega, .inl ⟨rfl, h⟩, bytesW_below hw⟩
  · refine Calls.mono (Tryz.strconv_ParseUint_10_at64_syntax ⟨bs.toArray⟩ (by rw [hsz]; omega) h _ w hs (.inr ⟨ts, ps, rfl⟩)) ?_
    rintro e w' ⟨N, rfl, _, _, hb⟩
    exact ⟨0, _, rfl, by omega, .inr ⟨⟨_, _, rfl⟩, fun u hu => by rw [h] at hu; cases hu⟩, hb⟩
  · refine Calls.mono (Tryz.strconv_ParseUint_10_at64_range ⟨bs.toArray⟩ (by rw [hsz]; omega) h _ w hr (.inr ⟨tr, pr, rfl⟩)) ?_
    rintro e w' ⟨N, rfl, _, _, hb⟩
    exact ⟨18446744073709551615, _, rfl, by omega, .inr ⟨⟨_, _, rfl⟩, fun u hu => by rw [h] at hu; cases hu⟩, hb⟩
theorem parseU10_32 (bs : List UInt8) (w : World) (hl : bs.length ≤ 1000) (ht : Hid (LaidC w)) :
    Calls Tryz.prog 75 #[.string ⟨bs.toArray⟩, .int .i64 10, .int .i64 32] w (PU10 32 w bs) := by
  obtain ⟨ts, ps, hs⟩ := ht.out.syn
  obtain ⟨tr, pr, hr⟩ := ht.out.rng
  have hsz : (⟨bs.toArray⟩ : ByteArray).size = bs.length := rfl
  rcases h : Lib.parseUintB 32 bs with u | _ | _
  · refine Calls.mono (Tryz.strconv_ParseUint_10_at32_ok ⟨bs.toArray⟩ (by rw [hsz]; omega) u h w) ?_
    rintro e w' ⟨rfl, hw⟩
    exact ⟨u, _, rfl, by have := Lib.parseUintB_le h; simp at this; omega, .inl ⟨rfl, h⟩, bytesW_below hw⟩
  · refine Calls.mono (Tryz.strconv_ParseUint_10_at32_syntax ⟨bs.toArray⟩ (by rw [hsz]; omega) h _ w hs (.inr ⟨ts, ps, rfl⟩)) ?_
    rintro e w' ⟨N, rfl, _, _, hb⟩
    exact ⟨0, _, rfl, by omega, .inr ⟨⟨_, _, rfl⟩, fun u hu => by rw [h] at hu; cases hu⟩, hb⟩
  · refine Calls.mono (Tryz.strconv_ParseUint_10_at32_range ⟨bs.toArray⟩ (by rw [hsz]; omega) h _ w hr (.inr ⟨tr, pr, rfl⟩)) ?_
    rintro e w' ⟨N, rfl, _, _, hb⟩
    exact ⟨4294967295, _, rfl, by omega, .inr ⟨⟨_, _, rfl⟩, fun u hu => by rw [h] at hu; cases hu⟩, hb⟩
theorem bytesW_below' {w w' : World} {e : TypeId} (h : w' = w ∨ ∃ s, w' = Lib.bytesWorld w e s) : Below w.heap.size w w' := by
  rcases h with rfl | ⟨s, rfl⟩
  · exact Below.refl _ _
  · exact Lib.bytesWorld_below _ _ _
theorem intSat_bd (k : Nat) (hk : k = 32 ∨ k = 64) (bs : List UInt8) : -9223372036854775808 ≤ Lib.intSat k bs ∧ Lib.intSat k bs ≤ 9223372036854775807 := by
  unfold Lib.intSat
  rcases hk with rfl | rfl <;> split <;> simp
theorem parseI_bd {k : Nat} (hk : k = 32 ∨ k = 64) {bs : List UInt8} {v : Int} (h : Lib.parseIntB k bs = .ok v) : -9223372036854775808 ≤ v ∧ v ≤ 9223372036854775807 := by
  have := Lib.parseIntB_bounds h
  rcases hk with rfl | rfl <;> simp at this <;> omega
theorem parseI10_64 (bs : List UInt8) (w : World) (hl : bs.length ≤ 1000) (ht : Hid (LaidC w)) :
    Calls Tryz.prog 140 #[.string ⟨bs.toArray⟩, .int .i64 10, .int .i64 64] w (PI10 64 w bs) := by
  obtain ⟨ts, ps, hs⟩ := ht.out.syn
  obtain ⟨tr, pr, hr⟩ := ht.out.rng
  have hsz : (⟨bs.toArray⟩ : ByteArray).size = bs.length := rfl
  rcases h : Lib.parseIntB 64 bs with u | _ | _
  · refine Calls.mono (Tryz.strconv_ParseInt_10_at64_ok ⟨bs.toArray⟩ (by rw [hsz]; omega) u h w) ?_
    rintro e w' ⟨rfl, hw⟩
    exact ⟨u, _, rfl, (parseI_bd (.inr rfl) h).1, (parseI_bd (.inr rfl) h).2, .inl ⟨rfl, h⟩, bytesW_below' hw⟩
  · refine Calls.mono (Tryz.strconv_ParseInt_10_at64_syntax ⟨bs.toArray⟩ (by rw [hsz]; omega) h _ w hs (.inr ⟨ts, ps, rfl⟩)) ?_
    rintro e w' ⟨N, rfl, _, _, hb⟩
    exact ⟨0, _, rfl, by omega, by omega, .inr ⟨⟨_, _, rfl⟩, fun u hu => by rw [h] at hu; cases hu⟩, hb⟩
  · refine Calls.mono (Tryz.strconv_ParseInt_10_at64_range ⟨bs.toArray⟩ (by rw [hsz]; omega) h _ w hr (.inr ⟨tr, pr, rfl⟩)) ?_
    rintro e w' ⟨N, rfl, _, _, hb⟩
    exact ⟨_, _, rfl, (intSat_bd 64 (.inr rfl) bs).1, (intSat_bd 64 (.inr rfl) bs).2, .inr ⟨⟨_, _, rfl⟩, fun u hu => by rw [h] at hu; cases hu⟩, hb⟩
theorem parseI10_32 (bs : List UInt8) (w : World) (hl : bs.length ≤ 1000) (ht : Hid (LaidC w)) :
    Calls Tryz.prog 140 #[.string ⟨bs.toArray⟩, .int .i64 10, .int .i64 32] w (PI10 32 w bs) := by
  obtain ⟨ts, ps, hs⟩ := ht.out.syn
  obtain ⟨tr, pr, hr⟩ := ht.out.rng
  have hsz : (⟨bs.toArray⟩ : ByteArray).size = bs.length := rfl
  rcases h : Lib.parseIntB 32 bs with u | _ | _
  · refine Calls.mono (Tryz.strconv_ParseInt_10_at32_ok ⟨bs.toArray⟩ (by rw [hsz]; omega) u h w) ?_
    rintro e w' ⟨rfl, hw⟩
    exact ⟨u, _, rfl, (parseI_bd (.inl rfl) h).1, (parseI_bd (.inl rfl) h).2, .inl ⟨rfl, h⟩, bytesW_below' hw⟩
  · refine Calls.mono (Tryz.strconv_ParseInt_10_at32_syntax ⟨bs.toArray⟩ (by rw [hsz]; omega) h _ w hs (.inr ⟨ts, ps, rfl⟩)) ?_
    rintro e w' ⟨N, rfl, _, _, hb⟩
    exact ⟨0, _, rfl, by omega, by omega, .inr ⟨⟨_, _, rfl⟩, fun u hu => by rw [h] at hu; cases hu⟩, hb⟩
  · refine Calls.mono (Tryz.strconv_ParseInt_10_at32_range ⟨bs.toArray⟩ (by rw [hsz]; omega) h _ w hr (.inr ⟨tr, pr, rfl⟩)) ?_
    rintro e w' ⟨N, rfl, _, _, hb⟩
    exact ⟨_, _, rfl, (intSat_bd 32 (.inl rfl) bs).1, (intSat_bd 32 (.inl rfl) bs).2, .inr ⟨⟨_, _, rfl⟩, fun u hu => by rw [h] at hu; cases hu⟩, hb⟩
end Go.Proofs.YtpanlhbdphobdaaGreatDoor
