/-
  The document's reading of a number: contracts.
-/
import Derived.Test.YtdgeabkanobldaaDoorConvJ
namespace Go.Proofs.YtdgeabkanobldaaDoor
open Go.RowKit
set_option linter.unusedVariables false

/-- what Read answers -/
def ReadP (f : Option Nat) (w : World) (e : Ending) (w' : World) : Prop := e = .returned (.tuple #[.int .u64 (f.getD 0 : Nat), .bool f.isSome]) ∧ w = w'

set_option maxHeartbeats 3200000 in
set_option maxRecDepth 100000 in
theorem refRead_10 (bs : List UInt8) (most : Nat) (w : World) (hl : bs.length ≤ 1000) (h99 : 99 ≤ most) (hm : most ≤ 18446744073709551615) :
    Calls Tryd.prog 17 #[.string ⟨bs.toArray⟩, .int .u64 10, .int .u64 most] w (ReadP (readL 10 most bs) w) := by
  cases bs with
  | nil =>
    go_enter Tryd.func17, Tryd.ntmps17
    go_wp2_with fail
    go_ret2
    exact ⟨rfl, rfl⟩
  | cons c0 r0 =>
    have hi0 : ∀ W, (Instr.index 9 (.string ⟨(c0 :: r0).toArray⟩) (.int .i64 0)).run Tryd.prog W = .ok (.int .u8 (c0.toNat : Int)) W := fun W => str_at (c0 :: r0) 0 .i64 (c := c0) rfl W
    have hc0 := c0.toNat_lt
    by_cases hz : c0.toNat = 48 ∧ r0 ≠ []
    · have hR : readL 10 most (c0 :: r0) = none := if_pos hz
      rw [hR]
      obtain ⟨hz1, hz2⟩ := hz
      have hlen : (1 : Int) < ((c0 :: r0).length : Int) := by cases r0 <;> simp_all; omega
      have e0 : ((c0.toNat : Int) == 48) = true := by rw [hz1]; rfl
      have hsz : (⟨(c0 :: r0).toArray⟩ : ByteArray).size = (c0 :: r0).length := rfl
      have hemp : (c0 :: r0).isEmpty = false := rfl
      generalize c0 :: r0 = bs at *
      clear hz1 hz2 hR
      go_enter Tryd.func17, Tryd.ntmps17
      go_wp2_with fail
      go_ret2
      exact ⟨rfl, rfl⟩
    · have hR : readL 10 most (c0 :: r0) = readGoL 10 most (c0 :: r0) 0 := if_neg hz
      have hsz : (⟨(c0 :: r0).toArray⟩ : ByteArray).size = (c0 :: r0).length := rfl
      have hemp : (c0 :: r0).isEmpty = false := rfl
      have htest : (1 : Int) < ((c0 :: r0).length : Int) → ((c0.toNat : Int) == 48) = false := by
        intro h
        have hne : r0 ≠ [] := by rintro rfl; simp at h
        have : c0.toNat ≠ 48 := fun h' => hz ⟨h', hne⟩
        simp
        omega
      clear hz
      generalize c0 :: r0 = bs at *
      have HR := hide hR
      have HI0 := hide hi0
      have HT := hide htest
      clear hR hi0 htest
      go_enter Tryd.func17, Tryd.ntmps17
      go_upto_region 1 with fail
      go_cut [22] (fun c wx => c = .bool false ∧ wx = w)
      case first =>
        by_cases hlen : (1 : Int) < (bs.length : Int)
        · have e0 := HT.out hlen
          have hi0 := HI0.out
          go_wp2_with fail
          go_meet
          exact ⟨rfl, rfl⟩
        · have hlen' : (bs.length : Int) ≤ 1 := by omega
          clear hlen
          go_wp2_with fail
          go_meet
          exact ⟨rfl, rfl⟩
      obtain ⟨rfl, rfl⟩ := hcut
      go_wp2_with fail
      go_loop [8, 9, 10] (fun vv vi _ => ∃ k v : Nat, vi = .int .i64 k ∧ vv = .int .u64 v ∧ k ≤ bs.length ∧ v ≤ most ∧ Hid (readL 10 most bs = readGoL 10 most (bs.drop k) v)) (fun _ vi _ => bs.length - (intOf vi).toNat)
      case atStart => exact ⟨0, 0, rfl, rfl, by omega, by omega, HR.out⟩
      case round =>
        obtain ⟨k, v, rfl, rfl, hk, hv, hin⟩ := hrel
        by_cases hlt : k < bs.length
        · have hget : bs[k]? = some bs[k] := List.getElem?_eq_getElem hlt
          have hdrop : bs.drop k = bs[k] :: bs.drop (k + 1) := List.drop_eq_getElem_cons hlt
          have hix := fun W => str_at bs k .i64 hget W
          have hst := hin.out
          rw [hdrop, readGoL] at hst
          generalize bs[k] = c at hix hst
          clear hget hdrop hin
          have hc256 := c.toNat_lt
          by_cases hA : 48 ≤ c.toNat ∧ c.toNat ≤ 57
          · have hdv : dvC c = c.toNat - 48 := by unfold dvC; rw [if_pos hA]
            rw [hdv] at hst
            obtain ⟨hA1, hA2⟩ := hA
            clear hdv
            by_cases hbad : (most - (c.toNat - 48)) / 10 < v
            · rw [if_pos (.inr hbad)] at hst
              have HST := hide hst
              have hbi : ((most : Int) - ((c.toNat : Int) - 48)) / 10 < (v : Int) := by omega
              clear hst hbad
              go_wp2_with fail
              go_ret2
              exact ⟨by rw [HST.out]; rfl, rfl⟩
            · rw [if_neg (by omega)] at hst
              have HST := hide hst
              have hbi : (v : Int) ≤ ((most : Int) - ((c.toNat : Int) - 48)) / 10 := by omega
              have hov : 10 * v + (c.toNat - 48) ≤ most := by omega
              have hcast : ((10 * v + (c.toNat - 48) : Nat) : Int) = 10 * (v : Int) + ((c.toNat : Int) - 48) := by omega
              have HCA := hide hcast
              have hovi : 10 * (v : Int) + ((c.toNat : Int) - 48) ≤ 18446744073709551615 := by omega
              clear hst hbad hcast
              go_wp2_with fail
              go_round
              case rel => exact ⟨k + 1, 10 * v + (c.toNat - 48), by go_num, int_congr HCA.out.symm, by omega, hov, HST.out⟩
              case measure => simp [intOf]; omega
          · by_cases hB : 97 ≤ c.toNat ∧ c.toNat ≤ 102
            · have hdv : dvC c = c.toNat - 87 := by unfold dvC; rw [if_neg hA, if_pos hB]
              rw [hdv] at hst
              obtain ⟨hB1, hB2⟩ := hB
              clear hdv hA
              rw [if_pos (.inl (by omega))] at hst
              have HST := hide hst
              clear hst
              go_wp2_with fail
              go_ret2
              exact ⟨by rw [HST.out]; rfl, rfl⟩
            · have hdv : dvC c = 99 := by unfold dvC; rw [if_neg hA, if_neg hB]
              rw [hdv, if_pos (.inl (by omega))] at hst
              have HST := hide hst
              have h3 : (c.toNat < 48 ∨ (57 < c.toNat ∧ c.toNat < 97)) ∨ 102 < c.toNat := by omega
              clear hst hA hB hdv
              rcases h3 with (h3 | ⟨h3, h4⟩) | h3
              all_goals
                go_wp2_with fail
                go_ret2
                exact ⟨by rw [HST.out]; rfl, rfl⟩
        · have hkk : k = bs.length := by omega
          subst hkk
          have hst := hin.out
          rw [List.drop_length, readGoL] at hst
          have HST := hide hst
          clear hst hin
          go_wp2_with fail
          go_ret2
          exact ⟨by rw [HST.out]; rfl, rfl⟩

set_option maxHeartbeats 3200000 in
set_option maxRecDepth 100000 in
theorem refRead_16 (bs : List UInt8) (most : Nat) (w : World) (hl : bs.length ≤ 1000) (h99 : 99 ≤ most) (hm : most ≤ 18446744073709551615) :
    Calls Tryd.prog 17 #[.string ⟨bs.toArray⟩, .int .u64 16, .int .u64 most] w (ReadP (readL 16 most bs) w) := by
  cases bs with
  | nil =>
    go_enter Tryd.func17, Tryd.ntmps17
    go_wp2_with fail
    go_ret2
    exact ⟨rfl, rfl⟩
  | cons c0 r0 =>
    have hi0 : ∀ W, (Instr.index 9 (.string ⟨(c0 :: r0).toArray⟩) (.int .i64 0)).run Tryd.prog W = .ok (.int .u8 (c0.toNat : Int)) W := fun W => str_at (c0 :: r0) 0 .i64 (c := c0) rfl W
    have hc0 := c0.toNat_lt
    by_cases hz : c0.toNat = 48 ∧ r0 ≠ []
    · have hR : readL 16 most (c0 :: r0) = none := if_pos hz
      rw [hR]
      obtain ⟨hz1, hz2⟩ := hz
      have hlen : (1 : Int) < ((c0 :: r0).length : Int) := by cases r0 <;> simp_all; omega
      have e0 : ((c0.toNat : Int) == 48) = true := by rw [hz1]; rfl
      have hsz : (⟨(c0 :: r0).toArray⟩ : ByteArray).size = (c0 :: r0).length := rfl
      have hemp : (c0 :: r0).isEmpty = false := rfl
      generalize c0 :: r0 = bs at *
      clear hz1 hz2 hR
      go_enter Tryd.func17, Tryd.ntmps17
      go_wp2_with fail
      go_ret2
      exact ⟨rfl, rfl⟩
    · have hR : readL 16 most (c0 :: r0) = readGoL 16 most (c0 :: r0) 0 := if_neg hz
      have hsz : (⟨(c0 :: r0).toArray⟩ : ByteArray).size = (c0 :: r0).length := rfl
      have hemp : (c0 :: r0).isEmpty = false := rfl
      have htest : (1 : Int) < ((c0 :: r0).length : Int) → ((c0.toNat : Int) == 48) = false := by
        intro h
        have hne : r0 ≠ [] := by rintro rfl; simp at h
        have : c0.toNat ≠ 48 := fun h' => hz ⟨h', hne⟩
        simp
        omega
      clear hz
      generalize c0 :: r0 = bs at *
      have HR := hide hR
      have HI0 := hide hi0
      have HT := hide htest
      clear hR hi0 htest
      go_enter Tryd.func17, Tryd.ntmps17
      go_upto_region 1 with fail
      go_cut [22] (fun c wx => c = .bool false ∧ wx = w)
      case first =>
        by_cases hlen : (1 : Int) < (bs.length : Int)
        · have e0 := HT.out hlen
          have hi0 := HI0.out
          go_wp2_with fail
          go_meet
          exact ⟨rfl, rfl⟩
        · have hlen' : (bs.length : Int) ≤ 1 := by omega
          clear hlen
          go_wp2_with fail
          go_meet
          exact ⟨rfl, rfl⟩
      obtain ⟨rfl, rfl⟩ := hcut
      go_wp2_with fail
      go_loop [8, 9, 10] (fun vv vi _ => ∃ k v : Nat, vi = .int .i64 k ∧ vv = .int .u64 v ∧ k ≤ bs.length ∧ v ≤ most ∧ Hid (readL 16 most bs = readGoL 16 most (bs.drop k) v)) (fun _ vi _ => bs.length - (intOf vi).toNat)
      case atStart => exact ⟨0, 0, rfl, rfl, by omega, by omega, HR.out⟩
      case round =>
        obtain ⟨k, v, rfl, rfl, hk, hv, hin⟩ := hrel
        by_cases hlt : k < bs.length
        · have hget : bs[k]? = some bs[k] := List.getElem?_eq_getElem hlt
          have hdrop : bs.drop k = bs[k] :: bs.drop (k + 1) := List.drop_eq_getElem_cons hlt
          have hix := fun W => str_at bs k .i64 hget W
          have hst := hin.out
          rw [hdrop, readGoL] at hst
          generalize bs[k] = c at hix hst
          clear hget hdrop hin
          have hc256 := c.toNat_lt
          by_cases hA : 48 ≤ c.toNat ∧ c.toNat ≤ 57
          · have hdv : dvC c = c.toNat - 48 := by unfold dvC; rw [if_pos hA]
            rw [hdv] at hst
            obtain ⟨hA1, hA2⟩ := hA
            clear hdv
            by_cases hbad : (most - (c.toNat - 48)) / 16 < v
            · rw [if_pos (.inr hbad)] at hst
              have HST := hide hst
              have hbi : ((most : Int) - ((c.toNat : Int) - 48)) / 16 < (v : Int) := by omega
              clear hst hbad
              go_wp2_with fail
              go_ret2
              exact ⟨by rw [HST.out]; rfl, rfl⟩
            · rw [if_neg (by omega)] at hst
              have HST := hide hst
              have hbi : (v : Int) ≤ ((most : Int) - ((c.toNat : Int) - 48)) / 16 := by omega
              have hov : 16 * v + (c.toNat - 48) ≤ most := by omega
              have hcast : ((16 * v + (c.toNat - 48) : Nat) : Int) = 16 * (v : Int) + ((c.toNat : Int) - 48) := by omega
              have HCA := hide hcast
              have hovi : 16 * (v : Int) + ((c.toNat : Int) - 48) ≤ 18446744073709551615 := by omega
              clear hst hbad hcast
              go_wp2_with fail
              go_round
              case rel => exact ⟨k + 1, 16 * v + (c.toNat - 48), by go_num, int_congr HCA.out.symm, by omega, hov, HST.out⟩
              case measure => simp [intOf]; omega
          · by_cases hB : 97 ≤ c.toNat ∧ c.toNat ≤ 102
            · have hdv : dvC c = c.toNat - 87 := by unfold dvC; rw [if_neg hA, if_pos hB]
              rw [hdv] at hst
              obtain ⟨hB1, hB2⟩ := hB
              clear hdv hA
              by_cases hbad : (most - (c.toNat - 87)) / 16 < v
              · rw [if_pos (.inr hbad)] at hst
                have HST := hide hst
                have hbi : ((most : Int) - ((c.toNat : Int) - 97 + 10)) / 16 < (v : Int) := by omega
                clear hst hbad
                go_wp2_with fail
                go_ret2
                exact ⟨by rw [HST.out]; rfl, rfl⟩
              · rw [if_neg (by omega)] at hst
                have HST := hide hst
                have hbi : (v : Int) ≤ ((most : Int) - ((c.toNat : Int) - 97 + 10)) / 16 := by omega
                have hov : 16 * v + (c.toNat - 87) ≤ most := by omega
                have hcast : ((16 * v + (c.toNat - 87) : Nat) : Int) = 16 * (v : Int) + ((c.toNat : Int) - 97 + 10) := by omega
                have HCA := hide hcast
                have hovi : 16 * (v : Int) + ((c.toNat : Int) - 97 + 10) ≤ 18446744073709551615 := by omega
                clear hst hbad hcast
                go_wp2_with fail
                go_round
                case rel => exact ⟨k + 1, 16 * v + (c.toNat - 87), by go_num, int_congr HCA.out.symm, by omega, hov, HST.out⟩
                case measure => simp [intOf]; omega
            · have hdv : dvC c = 99 := by unfold dvC; rw [if_neg hA, if_neg hB]
              rw [hdv, if_pos (.inl (by omega))] at hst
              have HST := hide hst
              have h3 : (c.toNat < 48 ∨ (57 < c.toNat ∧ c.toNat < 97)) ∨ 102 < c.toNat := by omega
              clear hst hA hB hdv
              rcases h3 with (h3 | ⟨h3, h4⟩) | h3
              all_goals
                go_wp2_with fail
                go_ret2
                exact ⟨by rw [HST.out]; rfl, rfl⟩
        · have hkk : k = bs.length := by omega
          subst hkk
          have hst := hin.out
          rw [List.drop_length, readGoL] at hst
          have HST := hide hst
          clear hst hin
          go_wp2_with fail
          go_ret2
          exact ⟨by rw [HST.out]; rfl, rfl⟩
end Go.Proofs.YtdgeabkanobldaaDoor
