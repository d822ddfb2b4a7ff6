/-
  types: TypesParse: the walk.
-/
import Derived.Test.YtgohojbgcjiebaaDoorTypesJ
namespace Go.Proofs.YtgohojbgcjiebaaDoor
open Go.RowKit
set_option linter.unusedVariables false

set_option maxHeartbeats 800000 in
set_option maxRecDepth 100000 in
theorem tparse_any (s : List UInt8) (w : World) (hl : s.length ≤ 300) (ht : LaidT w) :
    Calls Tryd.prog 5 #[.string ⟨s.toArray⟩] w fun e w' => e = .returned (.bool true) ∧ Below w.heap.size w w' := by
  have HA := hide (awakeT w ht)
  have hps := fun (W : World) (hW : Below w.heap.size w W) => parseSig_any s W (by omega) (LaidT.below ht hW : LaidT W)
  have hsr := fun (W : World) => sigref_any s W hl
  unfold ParseSigP at hps
  unfold SigRes at hsr
  have hlen : sigOk s = true → (sigP s).length ≤ 20 ∧ (sigR s).length ≤ 20 := fun h => by
    unfold sigOk at h
    obtain ⟨h12, _⟩ := Bool.and_eq_true_iff.1 h
    obtain ⟨h1, h2⟩ := Bool.and_eq_true_iff.1 h12
    exact ⟨((fewT_iff _).1 h1).1, ((fewT_iff _).1 h2).1⟩
  generalize sigP s = ps at *
  generalize sigR s = rs at *
  clear ht
  cases hq : sigOk s with
  | true =>
    obtain ⟨n1, n2⟩ := hlen hq
    have hps' : ∀ W, Below w.heap.size w W → Calls Tryd.prog 13 #[.string ⟨s.toArray⟩] W fun e w' => Below W.heap.size W w' ∧ ∃ v, e = .returned (.tuple #[v, .int .i64 0]) ∧ SigIs w' v ps rs := by
      intro W hW
      refine (hps W hW).mono fun e w' h => ⟨h.1, ?_⟩
      rcases h.2 with ⟨_, h⟩ | ⟨h1, _⟩
      · exact h
      · rw [hq] at h1; cases h1
    have hsr' : ∀ W, Calls Tryd.prog 18 #[.string ⟨s.toArray⟩] W fun e w' => Below W.heap.size W w' ∧ ∃ A1 c1 A2 c2, e = .returned (.tuple #[.slice A1 ps.length c1, .slice A2 rs.length c2, .bool true]) ∧ Hid (Reads w' w'.heap.size 1 A1 ps.length (ps.map B)) ∧ Hid (Reads w' w'.heap.size 1 A2 rs.length (rs.map B)) := by
      intro W
      refine (hsr W).mono fun e w' h => ⟨h.1, ?_⟩
      rcases h.2 with ⟨_, h⟩ | ⟨h1, _⟩
      · exact h
      · rw [hq] at h1; cases h1
    have hsm := fun (W : World) (v1 v2 : Value) (h : SigIs W v1 ps rs) (h' : SigIs W v2 ps rs) => same_any v1 v2 ps rs ps rs W h h' (by omega) (by omega) (by omega) (by omega)
    simp only [decide_true, Bool.and_true] at hsm
    have HSM := hide hsm
    have HPS := hide hps'
    have HSR := hide hsr'
    clear hps hsr hps' hsr' hlen hq hsm
    go_enter Tryd.func5, Tryd.ntmps5
    go_wp2_with fail
    refine HA.out.mono ?_; rintro e wa ⟨rfl, hba⟩
    have HBA := hide hba
    clear hba HA
    go_wp2_with fail
    refine (HPS.out wa HBA.out).mono ?_; rintro e wb ⟨hbb, v, rfl, hs⟩
    obtain ⟨E1, k1, E2, k2, rfl, y1, y2⟩ := hs.ex
    have HS := hide hs
    have HBB := hide (HBA.out.trans (hbb.mono HBA.out.size))
    clear hs y1 y2 hbb HPS
    go_wp2_with fail
    have V3 : Hid (SigVar (wb.alloc (.cells #[.slice E1 ps.length k1, .slice E2 rs.length k2] 32)) wb.heap.size (.slice E1 ps.length k1) (.slice E2 rs.length k2) ps rs) := SigVar.new HS.out
    have hal : Below wb.heap.size wb (wb.alloc (.cells #[.slice E1 ps.length k1, .slice E2 rs.length k2] 32)) := (Below.refl _ _).alloc (Nat.le_refl _) _
    have HBC := hide (HBB.out.trans (hal.mono HBB.out.size))
    clear hal
    generalize wb.alloc (.cells #[.slice E1 ps.length k1, .slice E2 rs.length k2] 32) = wc at *
    generalize wb.heap.size = b3 at *
    refine (HSR.out wc).mono ?_; rintro e wd ⟨hbd, A1, c1, A2, c2, rfl, r1, r2⟩
    have V3' := V3
    clear V3
    have V3 := hide (V3'.out.below hbd)
    have HBD := hide (HBC.out.trans (hbd.mono HBC.out.size))
    have T1 := hide (fun W (h : Below wd.heap.size wd W) => to_any A1 c1 ps W ((r1.out.below h).more h.size) (by omega))
    have T2 := hide (fun W (h : Below wd.heap.size wd W) => to_any A2 c2 rs W ((r2.out.below h).more h.size) (by omega))
    clear V3' hbd r1 r2 HSR HS
    go_wp2_with fail
    --REGIONK
    refine wp_region_factsR grew_ext (factsOf [fun yy _ => yy = .int .i64 0,
      fun yy _ => yy = .bool true,
      fun yy _ => yy = .bool true,
      fun yy _ => yy = .agg #[.slice E1 ps.length k1, .slice E2 rs.length k2],
      fun yy _ => yy = .slice A1 ps.length c1,
      fun yy WW => ∃ B5 d5, yy = .slice B5 ps.length d5 ∧ Hid (Reads WW WW.heap.size 1 B5 ps.length (ps.map B)),
      fun yy _ => yy = .slice A2 rs.length c2,
      fun yy WW => ∃ B5 d5, yy = .slice B5 rs.length d5 ∧ Hid (Reads WW WW.heap.size 1 B5 rs.length (rs.map B)),
      fun yy WW => SigIs WW yy ps rs,
      fun yy _ => yy = .bool true,
      fun yy _ => yy = .bool true,
      fun yy _ => yy = .bool true]) (by kernel_rfl) (by kernel_rfl) ?_ ?_
    · refine ⟨?_, ?_, ?_, ?_, ?_, ?_, ?_, ?_, ?_, ?_, ?_, ?_, trivial⟩
      · refine ⟨fun ρ W hk => ?_⟩
        have o4 : ρ (.tmp 4) = .int .i64 0 := hk.old 4 (by decide)
        exact OpOut.move (.tmp 4) rfl ⟨Below.refl _ _, o4⟩
      · refine ⟨fun ρ W hk => ?_⟩
        have h0 := (hk.fact 0 43 (by decide) rfl).pure
        exact OpOut.bin (x := .tmp 43) (y := .const (.int .i64 0)) (v := .bool true) rfl (by rw [h0, hk.const]; go_simp) (by rw [h0, hk.const]; go_simp) ⟨Below.refl _ _, rfl⟩
      · refine ⟨fun ρ W hk => ?_⟩
        have h1 := (hk.fact 1 44 (by decide) rfl).pure
        exact OpOut.move (.tmp 44) rfl ⟨Below.refl _ _, h1⟩
      · refine ⟨fun ρ W hk => ?_⟩
        have o3 : ρ (.tmp 3) = .pointer (some ⟨b3, 0, none⟩) := hk.old 3 (by decide)
        have h2 := (hk.fact 2 45 (by decide) rfl).pure
        refine ⟨45, rfl, .inl ⟨true, h2, fun _ => ?_, fun h => absurd rfl h⟩⟩
        have hv := V3.out.below hk.below
        exact OpOut.load (x := .tmp 3) rfl o3 (run_loadSig hv.at_.c0 hv.at_.c1) ⟨Below.refl _ _, rfl⟩
      · refine ⟨fun ρ W hk => ?_⟩
        have o5 : ρ (.tmp 5) = .slice A1 ps.length c1 := hk.old 5 (by decide)
        have h2 := (hk.fact 2 45 (by decide) rfl).pure
        refine ⟨45, rfl, .inl ⟨true, h2, fun _ => ?_, fun h => absurd rfl h⟩⟩
        exact OpOut.move (.tmp 5) rfl ⟨Below.refl _ _, o5⟩
      · refine ⟨fun ρ W hk => ?_⟩
        have h4 := (hk.fact 4 47 (by decide) rfl).pure
        have h2 := (hk.fact 2 45 (by decide) rfl).pure
        refine ⟨45, rfl, .inl ⟨true, h2, fun _ => ?_, fun h => absurd rfl h⟩⟩
        refine OpOut.fn (args := #[.slice A1 ps.length c1]) rfl (hk.func _) (by simp [h4]) Tryd.func11 (by kernel_rfl) rfl ?_
        refine (T1.out W hk.below).mono ?_; rintro e w5 ⟨B5, d5, rfl, s5, hb5⟩
        exact ⟨_, rfl, hb5, ⟨B5, d5, rfl, s5⟩⟩
      · refine ⟨fun ρ W hk => ?_⟩
        have o6 : ρ (.tmp 6) = .slice A2 rs.length c2 := hk.old 6 (by decide)
        have h2 := (hk.fact 2 45 (by decide) rfl).pure
        refine ⟨45, rfl, .inl ⟨true, h2, fun _ => ?_, fun h => absurd rfl h⟩⟩
        exact OpOut.move (.tmp 6) rfl ⟨Below.refl _ _, o6⟩
      · refine ⟨fun ρ W hk => ?_⟩
        have h6 := (hk.fact 6 49 (by decide) rfl).pure
        have h2 := (hk.fact 2 45 (by decide) rfl).pure
        refine ⟨45, rfl, .inl ⟨true, h2, fun _ => ?_, fun h => absurd rfl h⟩⟩
        refine OpOut.fn (args := #[.slice A2 rs.length c2]) rfl (hk.func _) (by simp [h6]) Tryd.func11 (by kernel_rfl) rfl ?_
        refine (T2.out W hk.below).mono ?_; rintro e w5 ⟨B5, d5, rfl, s5, hb5⟩
        exact ⟨_, rfl, hb5, ⟨B5, d5, rfl, s5⟩⟩
      · refine ⟨fun ρ W hk => ?_⟩
        obtain ⟨w1, hw1, B1, d1, h5, s1⟩ := hk.fact 5 48 (by decide) rfl
        obtain ⟨w2, hw2, B2, d2, h7, s2⟩ := hk.fact 7 50 (by decide) rfl
        have h2 := (hk.fact 2 45 (by decide) rfl).pure
        refine ⟨45, rfl, .inl ⟨true, h2, fun _ => ?_, fun h => absurd rfl h⟩⟩
        exact OpOut.build (v := .agg #[.slice B1 ps.length d1, .slice B2 rs.length d2]) (us := #[(0, .slice B1 ps.length d1), (1, .slice B2 rs.length d2)]) rfl (by simp [h5, h7]) (by go_simp) ⟨Below.refl _ _, SigIs.of ((s1.out.below hw1).more hw1.size) ((s2.out.below hw2).more hw2.size)⟩
      · refine ⟨fun ρ W hk => ?_⟩
        have h3 := (hk.fact 3 46 (by decide) rfl).pure
        obtain ⟨w8, hw8, hsg⟩ := hk.fact 8 51 (by decide) rfl
        have h2 := (hk.fact 2 45 (by decide) rfl).pure
        refine ⟨45, rfl, .inl ⟨true, h2, fun _ => ?_, fun h => absurd rfl h⟩⟩
        refine OpOut.fn (args := #[.agg #[.slice E1 ps.length k1, .slice E2 rs.length k2], ρ (.tmp 51)]) rfl (hk.func _) (by simp [h3]) Tryd.func17 (by kernel_rfl) rfl ?_
        refine (HSM.out W _ _ (V3.out.below hk.below).is_ (hsg.below hw8)).mono ?_; rintro e w5 ⟨rfl, hb5⟩
        exact ⟨_, rfl, hb5, rfl⟩
      · refine ⟨fun ρ W hk => ?_⟩
        have h2 := (hk.fact 2 45 (by decide) rfl).pure
        have h9 := (hk.fact 9 52 (by decide) rfl).pure
        exact OpOut.pick (c := .tmp 45) (b := true) rfl h2 ⟨Below.refl _ _, h9⟩
      · refine ⟨fun ρ W hk => ?_⟩
        have h10 := (hk.fact 10 53 (by decide) rfl).pure
        exact OpOut.assign (.tmp 53) rfl ⟨Below.refl _ _, h10⟩
    · intro vs W hb hf
      have h11 := (hf 11 (by decide)).pure
      clear hf
      simp only [fillL]
      go_frame
      rw [h11]
    --ENDK
      have HF := hide (HBD.out.trans (hb.mono HBD.out.size))
      clear hb
      go_wp2_with fail
      go_ret
      exact ⟨rfl, HF.out⟩
  | false =>
    have hps' : ∀ W, Below w.heap.size w W → Calls Tryd.prog 13 #[.string ⟨s.toArray⟩] W fun e w' => Below W.heap.size W w' ∧ ∃ v, e = .returned (.tuple #[v, .int .i64 4]) ∧ SigIs w' v [] [] := by
      intro W hW
      refine (hps W hW).mono fun e w' h => ⟨h.1, ?_⟩
      rcases h.2 with ⟨h1, _⟩ | ⟨_, h⟩
      · rw [hq] at h1; cases h1
      · exact h
    have hsr' : ∀ W, Calls Tryd.prog 18 #[.string ⟨s.toArray⟩] W fun e w' => Below W.heap.size W w' ∧ e = .returned (.tuple #[.slice none 0 0, .slice none 0 0, .bool false]) := by
      intro W
      refine (hsr W).mono fun e w' h => ⟨h.1, ?_⟩
      rcases h.2 with ⟨h1, _⟩ | ⟨_, h⟩
      · rw [hq] at h1; cases h1
      · exact h
    have HPS := hide hps'
    have HSR := hide hsr'
    clear hps hsr hps' hsr' hlen hq
    go_enter Tryd.func5, Tryd.ntmps5
    go_wp2_with fail
    refine HA.out.mono ?_; rintro e wa ⟨rfl, hba⟩
    have HBA := hide hba
    clear hba HA
    go_wp2_with fail
    refine (HPS.out wa HBA.out).mono ?_; rintro e wb ⟨hbb, v, rfl, hs⟩
    obtain ⟨E1, k1, E2, k2, rfl, y1, y2⟩ := hs.ex
    have HS := hide hs
    have HBB := hide (HBA.out.trans (hbb.mono HBA.out.size))
    clear hs y1 y2 hbb HPS
    go_wp2_with fail
    have V3 : Hid (SigVar (wb.alloc (.cells #[.slice E1 0 k1, .slice E2 0 k2] 32)) wb.heap.size (.slice E1 0 k1) (.slice E2 0 k2) [] []) := SigVar.new HS.out
    have hal : Below wb.heap.size wb (wb.alloc (.cells #[.slice E1 0 k1, .slice E2 0 k2] 32)) := (Below.refl _ _).alloc (Nat.le_refl _) _
    have HBC := hide (HBB.out.trans (hal.mono HBB.out.size))
    clear hal
    generalize wb.alloc (.cells #[.slice E1 0 k1, .slice E2 0 k2] 32) = wc at *
    generalize wb.heap.size = b3 at *
    refine (HSR.out wc).mono ?_; rintro e wd ⟨hbd, rfl⟩
    have hv := V3.out.below hbd
    have e30 := hv.at_.c0
    have e31 := hv.at_.c1
    have HBD := hide (HBC.out.trans (hbd.mono HBC.out.size))
    clear hbd hv HSR V3
    go_wp2_with fail
    go_ret
    exact ⟨rfl, HBD.out⟩

set_option maxHeartbeats 800000 in
/-- TypesParse's walk for the row -/
theorem TypesParse_walk (s : ByteArray) (w : World) (hs : s.size ≤ maxLen) (ht : LaidT w) :
    Calls Tryd.prog 5 #[.string s] w fun e w' => e = .returned (.bool true) ∧ Below w.heap.size w w' := by
  obtain ⟨⟨l⟩⟩ := s
  have hsz : (⟨⟨l⟩⟩ : ByteArray).size = l.length := rfl
  rw [hsz] at hs
  by_cases h : l.length ≤ 300
  · exact tparse_any l w h ht
  · have HA := hide (awakeT w ht)
    clear ht
    unfold maxLen at hs
    go_enter Tryd.func5, Tryd.ntmps5
    go_wp2_with fail
    refine HA.out.mono ?_; rintro e wa ⟨rfl, hba⟩
    have HBA := hide hba
    clear hba
    go_wp2_with fail
    go_ret
    exact ⟨rfl, HBA.out⟩
end Go.Proofs.YtgohojbgcjiebaaDoor
