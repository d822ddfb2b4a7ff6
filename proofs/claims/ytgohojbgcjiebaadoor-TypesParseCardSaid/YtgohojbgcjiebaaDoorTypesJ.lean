/-
  types: the document's answer: a text's signature: contract.
-/
import Derived.Test.YtgohojbgcjiebaaDoorTypesI
namespace Go.Proofs.YtgohojbgcjiebaaDoor
open Go.RowKit
set_option linter.unusedVariables false

/-- what a call of 'Sig' gives -/
def SigRes (w : World) (s : List UInt8) (e : Ending) (w' : World) : Prop :=
  Below w.heap.size w w' ∧ ((sigOk s = true ∧ ∃ A1 c1 A2 c2, e = .returned (.tuple #[.slice A1 (sigP s).length c1, .slice A2 (sigR s).length c2, .bool true]) ∧ Hid (Reads w' w'.heap.size 1 A1 (sigP s).length ((sigP s).map B)) ∧ Hid (Reads w' w'.heap.size 1 A2 (sigR s).length ((sigR s).map B))) ∨
    (sigOk s = false ∧ e = .returned (.tuple #[.slice none 0 0, .slice none 0 0, .bool false])))
theorem SigRes.no {w w' : World} {s : List UInt8} (h : sigOk s = true → False) (hb : Below w.heap.size w w') : SigRes w s (.returned (.tuple #[.slice none 0 0, .slice none 0 0, .bool false])) w' :=
  ⟨hb, .inr ⟨by cases h2 : sigOk s with | false => rfl | true => exact (h h2).elim, rfl⟩⟩

set_option maxHeartbeats 2000000 in
set_option maxRecDepth 100000 in
theorem sigref_any (s : List UInt8) (w : World) (hl : s.length ≤ 300) :
    Calls Tryd.prog 18 #[.string ⟨s.toArray⟩] w (SigRes w s) := by
  have HT1 := hide (show Calls Tryd.prog 24 #[.string ⟨s.toArray⟩, .int .i64 0] w (TyRes w s 0) from types_any s 0 w (by omega) (by omega))
  go_enter Tryd.func18, Tryd.ntmps18
  go_wp2_with fail
  refine HT1.out.mono ?_
  rintro e w1 ⟨A1, c1, l1, n1, rfl, r1, hp1, hb1, hln1⟩
  have HB1 := hide hb1
  clear hb1 HT1
  rcases hp1 with ⟨rfl, rfl, hno⟩ | ⟨rest, hg1, hs1, hn1⟩
  · have HNO := hide (show sigOk s = true → False from fun h => by obtain ⟨a, b, g1, _, _, _, e⟩ := sig_parts h; exact hno a _ g1 e)
    clear hno
    go_wp2_with fail
    go_ret3
    exact SigRes.no HNO.out HB1.out
  · obtain ⟨m, hm⟩ : ∃ m, (listL l1).length = m := ⟨_, rfl⟩
    rw [List.drop_zero] at hs1
    rw [Nat.zero_add, hm] at hn1
    subst hn1
    have hsl : s.length = m + rest.length := by rw [hs1, List.length_append, hm]
    have hdr : s.drop m = rest := by rw [hs1, ← hm, List.drop_left]
    -- what a right text would say
    have hright : sigOk s = true → ∃ b, (∀ t ∈ b, goodT t) ∧ l1.length ≤ 20 ∧ b.length ≤ 20 ∧ rest = 45 :: 62 :: listL b := by
      intro h
      obtain ⟨a, b, g1, g2, n1, n2, e⟩ := sig_parts h
      rw [e] at hs1
      obtain ⟨e1, e2⟩ := list_free g1 hg1 hs1
      rw [← e1]
      exact ⟨b, g2, n1, n2, e2.symm⟩
    have HRI := hide hright
    have HG1 := hide hg1
    have HS1 := hide hs1
    have HDR := hide hdr
    clear hright hg1 hs1 hdr hm
    by_cases h2 : rest.length < 2
    · have HNO := hide (show sigOk s = true → False from fun h => by obtain ⟨b, _, _, _, e⟩ := HRI.out h; rw [e, List.length_cons, List.length_cons] at h2; omega)
      go_wp2_with fail
      go_ret3
      exact SigRes.no HNO.out HB1.out
    · have hsm := fun W => str_mid s m (m + 2) .i64 .i64 (by omega) (by omega) W
      rw [HDR.out, show m + 2 - m = 2 by omega, show ((m + 2 : Nat) : Int) = (m : Int) + 2 by omega] at hsm
      by_cases hw : rest.take 2 = [45, 62]
      · obtain ⟨r2, hr2⟩ : ∃ r2, rest = 45 :: 62 :: r2 := ⟨rest.drop 2, by
          have := List.take_append_drop 2 rest
          rw [hw] at this
          exact this.symm⟩
        have hd2 : s.drop (m + 2) = r2 := by rw [← List.drop_drop, HDR.out, hr2]; rfl
        have HD2 := hide hd2
        have HR2 := hide hr2
        have hlr : rest.length = r2.length + 2 := by rw [hr2]; rfl
        have e1 : (rest.take 2 == [45, 62]) = true := by rw [hw]; rfl
        generalize rest.take 2 = wd at hsm e1
        have HT2 := hide (show Calls Tryd.prog 24 #[.string ⟨s.toArray⟩, .int .i64 ((m : Int) + 2)] w1 (TyRes w1 s (m + 2)) from types_any s (m + 2) w1 (by omega) (by omega))
        clear hd2 hr2 hw
        go_wp2_with fail
        refine HT2.out.mono ?_
        rintro e w2 ⟨A2, c2, l2, n2, rfl, r2', hp2, hb2, hln2⟩
        have HB2 := hide (HB1.out.trans (hb2.mono HB1.out.size))
        have r1' : Hid (Reads w2 w2.heap.size 1 A1 l1.length (l1.map B)) := (r1.out.below hb2).more hb2.size
        clear hb2 HT2 r1
        rcases hp2 with ⟨rfl, rfl, hno⟩ | ⟨r3, hg2, hs2, hn2⟩
        · have HNO := hide (show sigOk s = true → False from fun h => by
            obtain ⟨b, g2, _, _, e⟩ := HRI.out h
            rw [HR2.out] at e
            have e' : r2 = listL b := by injection e with _ e; injection e
            exact hno b [] g2 (by rw [HD2.out, e', List.append_nil]))
          clear hno
          go_wp2_with fail
          go_ret3
          exact SigRes.no HNO.out HB2.out
        · obtain ⟨m2, hm2⟩ : ∃ m2, (listL l2).length = m2 := ⟨_, rfl⟩
          rw [HD2.out] at hs2
          rw [hm2] at hn2
          have hsl2 : r2.length = m2 + r3.length := by rw [hs2, List.length_append, hm2]
          have hfit : sigOk s = true → l1.length ≤ 20 ∧ l2.length ≤ 20 ∧ r3 = [] := by
            intro h
            obtain ⟨b, g2, n1, n2, e⟩ := HRI.out h
            rw [HR2.out] at e
            have e' : r2 = listL b := by injection e with _ e; injection e
            have e2 : listL b ++ [] = listL l2 ++ r3 := by rw [List.append_nil, ← e', ← hs2]
            obtain ⟨e3, e4⟩ := list_free g2 hg2 e2
            rw [← e3, ← e4]
            exact ⟨n1, n2, rfl⟩
          have HFI := hide hfit
          have hyes : r3 = [] → l1.length ≤ 20 → l2.length ≤ 20 → sigOk s = true ∧ sigP s = l1 ∧ sigR s = l2 := by
            intro h3 k1 k2
            refine sig_yes HG1.out hg2 k1 k2 ?_
            rw [HS1.out, HR2.out, hs2, h3]
            simp [sigL]
          have HYE := hide hyes
          subst hn2
          clear hs2 hm2 hg2 hfit hyes
          by_cases h3 : r3.length = 0
          · have h30 : r3 = [] := List.eq_nil_of_length_eq_zero h3
            by_cases k1 : l1.length ≤ 20
            · by_cases k2 : l2.length ≤ 20
              · obtain ⟨y1, y2, y3⟩ := HYE.out h30 k1 k2
                have HY1 := hide y1
                have HY2 := hide y2
                have HY3 := hide y3
                clear y1 y2 y3 HYE h30
                go_wp2_with fail
                go_ret3
                refine ⟨HB2.out, .inl ⟨HY1.out, ?_⟩⟩
                rw [HY2.out, HY3.out]
                exact ⟨A1, c1, A2, c2, rfl, r1', r2'⟩
              · have HNO := hide (show sigOk s = true → False from fun h => k2 (HFI.out h).2.1)
                clear HYE h30
                go_wp2_with fail
                go_ret3
                exact SigRes.no HNO.out HB2.out
            · have HNO := hide (show sigOk s = true → False from fun h => k1 (HFI.out h).1)
              clear HYE h30
              go_wp2_with fail
              go_ret3
              exact SigRes.no HNO.out HB2.out
          · have HNO := hide (show sigOk s = true → False from fun h => h3 (by rw [(HFI.out h).2.2]; rfl))
            clear HYE
            go_wp2_with fail
            go_ret3
            exact SigRes.no HNO.out HB2.out
      · have HNO := hide (show sigOk s = true → False from fun h => by obtain ⟨b, _, _, _, e⟩ := HRI.out h; rw [e] at hw; exact hw rfl)
        have e1 : (rest.take 2 == [45, 62]) = false := beq_eq_false_iff_ne.2 hw
        generalize rest.take 2 = wd at hsm e1
        clear hw
        go_wp2_with fail
        go_ret3
        exact SigRes.no HNO.out HB1.out
end Go.Proofs.YtgohojbgcjiebaaDoor
