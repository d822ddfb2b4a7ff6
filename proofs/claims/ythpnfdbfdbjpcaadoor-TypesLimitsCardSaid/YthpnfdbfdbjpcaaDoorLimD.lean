/-
  types: a text's limits, by the document: contract.
-/
import Derived.Test.YthpnfdbfdbjpcaaDoorLimC
namespace Go.Proofs.YthpnfdbfdbjpcaaDoor
open Go.RowKit
set_option linter.unusedVariables false

/-- what the document's reading answers -/
def RefLimP (w : World) (s : List UInt8) (e : Ending) (w' : World) : Prop :=
  w = w' ∧ ∃ (a b : Int) (wide ok : Bool), e = .returned (.tuple #[.int .i64 a, .int .i64 b, .bool wide, .bool ok]) ∧ (ok = true → Lim s a b wide) ∧ (ok = false → ∀ a b wd, ¬ Lim s a b wd)
theorem strip_cases (s : List UInt8) : ∃ t wide, s = t ++ suf wide ∧ (wide = false → ¬ (4 < s.length ∧ s.drop (s.length - 4) = [32, 105, 54, 52])) ∧ (wide = true → 4 < s.length ∧ s.drop (s.length - 4) = [32, 105, 54, 52] ∧ s.take (s.length - 4) = t) ∧ (wide = false → s = t) := by
  by_cases h : 4 < s.length ∧ s.drop (s.length - 4) = [32, 105, 54, 52]
  · refine ⟨s.take (s.length - 4), true, ?_, by simp, fun _ => ⟨h.1, h.2, rfl⟩, by simp⟩
    show s = _ ++ [32, 105, 54, 52]
    rw [← h.2, List.take_append_drop]
  · exact ⟨s, false, by simp [suf], fun _ => h, by simp, fun _ => rfl⟩

theorem readP_any (x : List UInt8) (most : Nat) (hl : x.length ≤ 1000) (h99 : 99 ≤ most) (hm : most ≤ 1000000000) : ∃ (u : Nat) (ok : Bool), (∀ W, Calls Tryd.prog 21 #[.string ⟨x.toArray⟩, .int .u64 10, .int .u64 most] W fun e w' => e = .returned (.tuple #[.int .u64 u, .bool ok]) ∧ W = w') ∧ u ≤ 1000000000 ∧ (ok = true → readL 10 most x = some u) ∧ (ok = false → readL 10 most x = none) := by
  refine ⟨(readL 10 most x).getD 0, (readL 10 most x).isSome, fun W => refRead_10 x most W hl h99 (by omega), ?_, ?_, ?_⟩
  · cases h : readL 10 most x with
    | none => simp
    | some u =>
      have := ((readL_iff (b := 10) (by omega) (by omega) (by omega) x u).1 h).2
      simp <;> omega
  · intro h
    cases h' : readL 10 most x with
    | none => rw [h'] at h; cases h
    | some u => rfl
  · intro h
    cases h' : readL 10 most x with
    | none => rfl
    | some u => rw [h'] at h; cases h

set_option maxHeartbeats 1600000 in
set_option maxRecDepth 100000 in
theorem refLim_any (s : List UInt8) (w : World) (hl : s.length ≤ 200) :
    Calls Tryd.prog 10 #[.string ⟨s.toArray⟩] w (RefLimP w s) := by
  obtain ⟨t, wide, hst, hwf, hwt, hwe⟩ := strip_cases s
  have hlt : t.length ≤ s.length := by rw [hst]; simp
  have RL : Hid (∀ {x y : List UInt8}, (32 : UInt8) ∉ x → t = x ++ 32 :: y → ∀ a b wd, Lim s a b wd ↔ wd = wide ∧ ∃ u : Nat, a = u ∧ readL 10 1000000000 x = some u ∧ ((y = [45] ∧ b = -1) ∨ (y ≠ [45] ∧ ∃ v : Nat, b = v ∧ readL 10 1000000000 y = some v))) := fun {x y} hx ht a b wd => ref_lim hst hwf hx ht a b wd
  have RN : Hid ((32 : UInt8) ∉ t → ∀ a b wd, ¬ Lim s a b wd) := fun h a b wd => ref_none hst hwf h a b wd
  have hl4 : wide = true → (4 : Int) < s.length := fun h => by have := (hwt h).1; omega
  have S1 : Hid (4 ≤ s.length → ∀ W, (Instr.slice 9 (.string ⟨s.toArray⟩) (some (.int .i64 ((s.length : Int) - 4))) none none).run Tryd.prog W = .ok (.string ⟨(s.drop (s.length - 4)).toArray⟩) W) := fun h W => by
    have := str_from s (s.length - 4) .i64 (by omega) W
    rw [show ((s.length - 4 : Nat) : Int) = (s.length : Int) - 4 from by omega] at this
    exact this
  have S2 : Hid (wide = true → ∀ W, (Instr.slice 9 (.string ⟨s.toArray⟩) none (some (.int .i64 ((s.length : Int) - 4))) none).run Tryd.prog W = .ok (.string ⟨t.toArray⟩) W) := fun h W => by
    have := str_upto s (s.length - 4) .i64 (by omega) W
    rw [show ((s.length - 4 : Nat) : Int) = (s.length : Int) - 4 from by have := (hwt h).1; omega, (hwt h).2.2] at this
    exact this
  have HWF := hide hwf
  have HWT := hide hwt
  have HWE := hide hwe
  have HSZ : (⟨s.toArray⟩ : ByteArray).size = s.length := rfl
  have HTZ : (⟨t.toArray⟩ : ByteArray).size = t.length := rfl
  have hl4' := hide hl4
  clear hst hwf hwt hwe hl4
  go_enter Tryd.func10, Tryd.ntmps10
  go_upto_region 1 with fail
  go_cut [6] (fun q wx => q = .bool wide ∧ wx = w)
  case first =>
    by_cases h4 : (4 : Int) < s.length
    · have s1 := S1.out (by omega)
      have hd : (s.drop (s.length - 4) == [32, 105, 54, 52]) = wide := by
        cases wide with
        | true => exact beq_iff_eq.2 (HWT.out rfl).2.1
        | false => exact beq_eq_false_iff_ne.2 (fun h => HWF.out rfl ⟨by omega, h⟩)
      generalize s.drop (s.length - 4) = dd at *
      go_wp2_with fail
      go_meet
      exact ⟨rfl, rfl⟩
    · have h4' : (s.length : Int) ≤ 4 := by omega
      have hw0 : wide = false := by
        cases wide with
        | true => exact absurd (hl4'.out rfl) h4
        | false => rfl
      subst hw0
      clear h4
      go_wp2_with fail
      go_meet
      exact ⟨rfl, rfl⟩
  obtain ⟨rfl, rfl⟩ := hcut
  go_upto_if 23 with fail
  go_cut [0] (fun q wx => q = .string ⟨t.toArray⟩ ∧ wx = wc)
  case first =>
    cases wide with
    | true =>
      have s2 := S2.out rfl
      have h4 := hl4'.out rfl
      go_wp2_with fail
      go_meet
      exact ⟨rfl, rfl⟩
    | false =>
      have he := HWE.out rfl
      go_wp2_with fail
      go_meet
      exact ⟨rfl, rfl⟩
  obtain ⟨rfl, rfl⟩ := hcut
  clear S1 S2 HWF HWT HWE HSZ hl4'
  go_wp2_with fail
  go_loop [7] (fun vi => ∃ k : Nat, vi = .int .i64 k ∧ k ≤ t.length ∧ Hid ((32 : UInt8) ∉ t.take k)) (fun vi => t.length - (intOf vi).toNat)
  case atStart => exact ⟨0, rfl, by omega, by show _ ∉ _; simp⟩
  case round =>
    obtain ⟨k, rfl, hk, hno⟩ := hrel
    by_cases hlt : k < t.length
    · have hget : t[k]? = some t[k] := List.getElem?_eq_getElem hlt
      have hix := fun W => str_at t k .i64 hget W
      have htk : t.take (k + 1) = t.take k ++ [t[k]] := by rw [List.take_add_one, hget]; rfl
      have hcut : t = t.take k ++ t[k] :: t.drop (k + 1) := by rw [← List.drop_eq_getElem_cons hlt, List.take_append_drop]
      generalize t[k] = c at *
      have HTK := hide htk
      have HCUT := hide hcut
      clear htk hcut hget
      by_cases hc : c.toNat = 32
      · have ec : c = 32 := UInt8.toNat_inj.1 hc
        have s3 := fun W => str_upto t k .i64 hk W
        have s4 : ∀ W, (Instr.slice 9 (.string ⟨t.toArray⟩) (some (.int .i64 ((k : Int) + 1))) none none).run Tryd.prog W = .ok (.string ⟨(t.drop (k + 1)).toArray⟩) W := fun W => str_from t (k + 1) .i64 hlt W
        have RLk := hide (RL.out hno.out (by rw [← ec]; exact HCUT.out))
        have hxl : (t.take k).length ≤ 200 := by rw [List.length_take]; omega
        have hyl : (t.drop (k + 1)).length ≤ 200 := by rw [List.length_drop]; omega
        clear HTK HCUT RL RN hno ec
        generalize t.take k = x at *
        generalize t.drop (k + 1) = y at *
        obtain ⟨ua, oa, hRa, hua, hra⟩ := readP_any x 1000000000 (by omega) (by omega) (by omega)
        obtain ⟨ub, ob, hRb, hub, hrb⟩ := readP_any y 1000000000 (by omega) (by omega) (by omega)
        have HRa := hide hRa
        have HRb := hide hRb
        have Hra := hide hra
        have Hrb := hide hrb
        clear hRa hRb hra hrb hxl hyl
        obtain ⟨d, hd⟩ : ∃ d, (y == [45]) = d := ⟨_, rfl⟩
        have EC : ((c.toNat : Int) != 32) = false := by rw [hc]; rfl
        have EC2 : ((c.toNat : Int) == 32) = true := by rw [hc]; rfl
        clear hc
        go_wp2_with fail
        refine (HRa.out _).mono ?_; rintro e w' ⟨rfl, rfl⟩
        cases d with
        | true =>
          have HD := hide (beq_iff_eq.1 hd)
          go_wp2_with fail
          refine bodyPost_ret (v := .tuple #[.int .i64 ua, .int .i64 (-1), .bool wide, .bool oa]) (by simp [results, Tryd.results10, go_sem]) rfl ?_
          refine ⟨rfl, ua, -1, wide, oa, rfl, fun ho => (RLk.out _ _ _).2 ⟨rfl, ua, rfl, Hra.out.1 ho, .inl ⟨HD.out, rfl⟩⟩, fun ho a b wd h => ?_⟩
          obtain ⟨_, u, _, h2, _⟩ := (RLk.out a b wd).1 h
          rw [Hra.out.2 ho] at h2
          cases h2
        | false =>
          have HD := hide (beq_eq_false_iff_ne.1 hd)
          go_wp2_with fail
          refine (HRb.out _).mono ?_; rintro e w' ⟨rfl, rfl⟩
          have HN : Hid (∀ a b wd, Lim s a b wd → oa = true ∧ ob = true) := fun a b wd h => by
            obtain ⟨_, u, _, h2, h3⟩ := (RLk.out a b wd).1 h
            rcases h3 with ⟨h3, _⟩ | ⟨_, v, _, h4⟩
            · exact absurd h3 HD.out
            · refine ⟨?_, ?_⟩
              · cases oa with
                | true => rfl
                | false => rw [Hra.out.2 rfl] at h2; cases h2
              · cases ob with
                | true => rfl
                | false => rw [Hrb.out.2 rfl] at h4; cases h4
          cases oa with
          | false =>
            go_wp2_with fail
            refine bodyPost_ret (v := .tuple #[.int .i64 ua, .int .i64 ub, .bool wide, .bool false]) (by simp [results, Tryd.results10, go_sem]) rfl ?_
            exact ⟨rfl, ua, ub, wide, false, rfl, by simp, fun _ a b wd h => by have := (HN.out a b wd h).1; cases this⟩
          | true =>
            go_wp2_with fail
            refine bodyPost_ret (v := .tuple #[.int .i64 ua, .int .i64 ub, .bool wide, .bool ob]) (by simp [results, Tryd.results10, go_sem]) rfl ?_
            exact ⟨rfl, ua, ub, wide, ob, rfl, fun ho => (RLk.out _ _ _).2 ⟨rfl, ua, rfl, by have h := Hra.out.1; simpa using h, .inr ⟨HD.out, ub, rfl, Hrb.out.1 ho⟩⟩, fun ho a b wd h => by have := (HN.out a b wd h).2; rw [ho] at this; cases this⟩
      · have ec : ((c.toNat : Int) != 32) = true := by simp; omega
        have ec2 : ((c.toNat : Int) == 32) = false := by simp; omega
        have HN : Hid ((32 : UInt8) ∉ t.take (k + 1)) := by
          show _ ∉ _
          rw [HTK.out]
          simp only [List.mem_append, List.mem_singleton, not_or]
          exact ⟨hno.out, fun h => hc (by rw [← h]; rfl)⟩
        clear hc HTK HCUT
        go_wp2_with fail
        go_round
        case rel => exact ⟨k + 1, by go_num, by omega, HN⟩
        case measure => simp [intOf] <;> omega
    · have hkk : k = t.length := by omega
      subst hkk
      have HN : Hid ((32 : UInt8) ∉ t) := by have := hno.out; rw [List.take_length] at this; exact this
      clear hno
      go_wp2_with fail
      refine bodyPost_ret (v := .tuple #[.int .i64 0, .int .i64 0, .bool false, .bool false]) (by simp [results, Tryd.results10, go_sem]) rfl ?_
      exact ⟨rfl, 0, 0, false, false, rfl, by simp, fun _ => RN.out HN.out⟩
end Go.Proofs.YthpnfdbfdbjpcaaDoor
