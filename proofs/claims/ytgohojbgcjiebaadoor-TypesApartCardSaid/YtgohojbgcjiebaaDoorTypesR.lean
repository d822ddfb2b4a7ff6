/-
  types: TypesApart: the walk.
-/
import Derived.Test.YtgohojbgcjiebaaDoorTypesQ
namespace Go.Proofs.YtgohojbgcjiebaaDoor
open Go.RowKit
set_option linter.unusedVariables false

theorem str_eq_dec (a b : List UInt8) : ((⟨a.toArray⟩ : ByteArray) == ⟨b.toArray⟩) = decide (a = b) := by
  show (a.toArray == b.toArray) = _
  by_cases h : a = b
  · subst h; simp
  · rw [decide_eq_false h]; simpa using h

theorem beq_decB (a b : List UInt8) : (a == b) = decide (a = b) := by
  by_cases h : a = b
  · rw [decide_eq_true h]; exact beq_iff_eq.2 h
  · rw [decide_eq_false h]; exact beq_eq_false_iff_ne.2 h
theorem run_eql_of {a b : ByteArray} {q : Bool} (h : (a == b) = q) (W : World) : (binOp .eql 9 (.string a) (.string b)).run Tryd.prog W = .ok (.bool q) W := by
  have e := run_eql_str a.data.toList b.data.toList W
  rw [← h]
  rw [← str_eq_dec] at e
  exact e
set_option maxHeartbeats 800000 in
set_option maxRecDepth 100000 in
theorem tapart_any (A1 : Option Addr) (c1 : Nat) (ps : List UInt8) (A2 : Option Addr) (c2 : Nat) (rs : List UInt8) (A3 : Option Addr) (c3 : Nat) (qs : List UInt8) (A4 : Option Addr) (c4 : Nat) (ss : List UInt8) (w : World)
    (r1 : Reads w w.heap.size 1 A1 ps.length (ps.map B)) (r2 : Reads w w.heap.size 1 A2 rs.length (rs.map B)) (r3 : Reads w w.heap.size 1 A3 qs.length (qs.map B)) (r4 : Reads w w.heap.size 1 A4 ss.length (ss.map B))
    (h1 : ps.length ≤ 30) (h2 : rs.length ≤ 30) (h3 : qs.length ≤ 30) (h4 : ss.length ≤ 30) (ht : LaidT w) :
    Calls Tryd.prog 6 #[.slice A1 ps.length c1, .slice A2 rs.length c2, .slice A3 qs.length c3, .slice A4 ss.length c4] w fun e w' => e = .returned (.bool true) ∧ Below w.heap.size w w' := by
  have HA := hide (awakeT w ht)
  have T1 := hide (fun W (h : Below w.heap.size w W) => to_any A1 c1 ps W ((r1.below h).more h.size) (by omega))
  have T2 := hide (fun W (h : Below w.heap.size w W) => to_any A2 c2 rs W ((r2.below h).more h.size) (by omega))
  have T3 := hide (fun W (h : Below w.heap.size w W) => to_any A3 c3 qs W ((r3.below h).more h.size) (by omega))
  have T4 := hide (fun W (h : Below w.heap.size w W) => to_any A4 c4 ss W ((r4.below h).more h.size) (by omega))
  have hr1 := (fun W (h : Below w.heap.size w W) => lright_any A1 c1 ps W ((r1.below h).more h.size) (by omega))
  have hr2 := (fun W (h : Below w.heap.size w W) => lright_any A2 c2 rs W ((r2.below h).more h.size) (by omega))
  have hr3 := (fun W (h : Below w.heap.size w W) => lright_any A3 c3 qs W ((r3.below h).more h.size) (by omega))
  have hr4 := (fun W (h : Below w.heap.size w W) => lright_any A4 c4 ss W ((r4.below h).more h.size) (by omega))
  have RR1 := hide r1
  have RR2 := hide r2
  have RR3 := hide r3
  have RR4 := hide r4
  have hpr := fun (W : World) (v : Value) (h : SigIs W v ps rs) => print_any v ps rs W h (by omega) (by omega)
  have hpr2 := fun (W : World) (v : Value) (h : SigIs W v qs ss) => print_any v qs ss W h (by omega) (by omega)
  have hri := fun (W : World) (v : Value) (h : SigIs W v ps rs) => right_any v ps rs W h (by omega) (by omega)
  have hri2 := fun (W : World) (v : Value) (h : SigIs W v qs ss) => right_any v qs ss W h (by omega) (by omega)
  have hsm := fun (W : World) (v1 v2 : Value) (h : SigIs W v1 ps rs) (h' : SigIs W v2 qs ss) => same_any v1 v2 ps rs qs ss W h h' (by omega) (by omega) (by omega) (by omega)
  have hsm2 := fun (W : World) (v1 v2 : Value) (h : SigIs W v1 qs ss) (h' : SigIs W v2 ps rs) => same_any v1 v2 qs ss ps rs W h h' (by omega) (by omega) (by omega) (by omega)
  rw [show (decide (qs = ps) && decide (ss = rs)) = (decide (ps = qs) && decide (rs = ss)) by
    rw [decide_eq_decide.2 (⟨Eq.symm, Eq.symm⟩ : qs = ps ↔ ps = qs), decide_eq_decide.2 (⟨Eq.symm, Eq.symm⟩ : ss = rs ↔ rs = ss)]] at hsm2
  have hsig : (fewT ps = true) → (fewT rs = true) → ((⟨(sigL ps rs).toArray⟩ : ByteArray) == ⟨(sigL qs ss).toArray⟩) = (decide (ps = qs) && decide (rs = ss)) := by
    intro g1 g2
    rw [str_eq_dec, ← Bool.decide_and]
    refine decide_eq_decide.2 ⟨fun e => sigL_inj ((fewT_iff _).1 g1).2 ((fewT_iff _).1 g2).2 e, fun ⟨e1, e2⟩ => by rw [e1, e2]⟩
  have hd1 := beq_decB ps qs
  have hd2 := beq_decB rs ss
  have v1 := fun (W : World) (h : Below w.heap.size w W) => str_reads c1 (r1.below h) W (fun _ => rfl)
  have v2 := fun (W : World) (h : Below w.heap.size w W) => str_reads c2 (r2.below h) W (fun _ => rfl)
  have v3 := fun (W : World) (h : Below w.heap.size w W) => str_reads c3 (r3.below h) W (fun _ => rfl)
  have v4 := fun (W : World) (h : Below w.heap.size w W) => str_reads c4 (r4.below h) W (fun _ => rfl)
  clear r1 r2 r3 r4 ht
  generalize (⟨(sigL ps rs).toArray⟩ : ByteArray) = x1 at *
  generalize (⟨(sigL qs ss).toArray⟩ : ByteArray) = x2 at *
  generalize fewT ps = f1 at *
  generalize fewT rs = f2 at *
  generalize fewT qs = f3 at *
  generalize fewT ss = f4 at *
  generalize decide (ps = qs) = d1 at *
  generalize decide (rs = ss) = d2 at *
  have R1 := hide hr1
  have R2 := hide hr2
  have R3 := hide hr3
  have R4 := hide hr4
  have HPR := hide hpr
  have HPR2 := hide hpr2
  have HRI := hide hri
  have HRI2 := hide hri2
  have HSM := hide hsm
  have HSM2 := hide hsm2
  have HSIG := hide hsig
  have HD1 := hide hd1
  have HD2 := hide hd2
  have V1 := hide v1
  have V2 := hide v2
  have V3 := hide v3
  have V4 := hide v4
  clear hr1 hr2 hr3 hr4 hpr hpr2 hri hri2 hsm hsm2 hsig hd1 hd2 v1 v2 v3 v4
  go_enter Tryd.func6, Tryd.ntmps6
  go_wp2_with fail
  refine HA.out.mono ?_; rintro e wa ⟨rfl, hba⟩
  have HBA := hide hba
  clear hba HA
  go_wp2_with fail
  refine (R1.out wa HBA.out).mono ?_; rintro e wa' ⟨rfl, rfl⟩
  cases f1 with
  | false => go_wp2_with fail; go_ret; exact ⟨rfl, HBA.out⟩
  | true =>
  go_wp2_with fail
  refine (R2.out wa HBA.out).mono ?_; rintro e wa' ⟨rfl, rfl⟩
  cases f2 with
  | false => go_wp2_with fail; go_ret; exact ⟨rfl, HBA.out⟩
  | true =>
  go_wp2_with fail
  refine (R3.out wa HBA.out).mono ?_; rintro e wa' ⟨rfl, rfl⟩
  cases f3 with
  | false => go_wp2_with fail; go_ret; exact ⟨rfl, HBA.out⟩
  | true =>
  go_wp2_with fail
  refine (R4.out wa HBA.out).mono ?_; rintro e wa' ⟨rfl, rfl⟩
  cases f4 with
  | false => go_wp2_with fail; go_ret; exact ⟨rfl, HBA.out⟩
  | true =>
  go_wp2_with fail
  refine (T1.out wa HBA.out).mono ?_; rintro e wb ⟨B1, e1, rfl, s1, hbb⟩
  have HBB := hide (HBA.out.trans (hbb.mono HBA.out.size))
  clear hbb
  go_wp2_with fail
  refine (T2.out wb HBB.out).mono ?_; rintro e wc ⟨B2, e2, rfl, s2, hbc⟩
  have HBC := hide (HBB.out.trans (hbc.mono HBB.out.size))
  have s1' : Hid (Reads wc wc.heap.size 1 B1 ps.length (ps.map B)) := (s1.out.below hbc).more hbc.size
  clear hbc s1
  go_wp2_with fail
  refine (T3.out wc HBC.out).mono ?_; rintro e wd ⟨B3, e3, rfl, s3, hbd⟩
  have HBD := hide (HBC.out.trans (hbd.mono HBC.out.size))
  have s1 : Hid (Reads wd wd.heap.size 1 B1 ps.length (ps.map B)) := (s1'.out.below hbd).more hbd.size
  have s2' : Hid (Reads wd wd.heap.size 1 B2 rs.length (rs.map B)) := (s2.out.below hbd).more hbd.size
  clear hbd s1' s2
  go_wp2_with fail
  refine (T4.out wd HBD.out).mono ?_; rintro e we ⟨B4, e4, rfl, s4, hbe⟩
  have HBE := hide (HBD.out.trans (hbe.mono HBD.out.size))
  have s1' : Hid (Reads we we.heap.size 1 B1 ps.length (ps.map B)) := (s1.out.below hbe).more hbe.size
  have s2 : Hid (Reads we we.heap.size 1 B2 rs.length (rs.map B)) := (s2'.out.below hbe).more hbe.size
  have s3' : Hid (Reads we we.heap.size 1 B3 qs.length (qs.map B)) := (s3.out.below hbe).more hbe.size
  clear hbe s1 s2' s3
  have hal1 : Below we.heap.size we (we.alloc (.cells #[.slice B1 ps.length e1, .slice B2 rs.length e2] 32)) := (Below.refl _ _).alloc (Nat.le_refl _) _
  have v9 : SigVar (we.alloc (.cells #[.slice B1 ps.length e1, .slice B2 rs.length e2] 32)) we.heap.size (.slice B1 ps.length e1) (.slice B2 rs.length e2) ps rs := SigVar.new (SigIs.of s1' s2)
  have s3 := (s3'.out.below hal1).more hal1.size
  have s4' := (s4.out.below hal1).more hal1.size
  have v10 := SigVar.new (SigIs.of (c1 := e3) (c2 := e4) s3 s4')
  have hs10 : (we.alloc (.cells #[.slice B1 ps.length e1, .slice B2 rs.length e2] 32)).heap.size = we.heap.size + 1 := by simp
  have hal2 : Below (we.alloc (.cells #[.slice B1 ps.length e1, .slice B2 rs.length e2] 32)).heap.size (we.alloc (.cells #[.slice B1 ps.length e1, .slice B2 rs.length e2] 32)) ((we.alloc (.cells #[.slice B1 ps.length e1, .slice B2 rs.length e2] 32)).alloc (.cells #[.slice B3 qs.length e3, .slice B4 ss.length e4] 32)) := (Below.refl _ _).alloc (Nat.le_refl _) _
  have v9' := v9.below hal2
  have hbf := (HBE.out.trans (hal1.mono HBE.out.size)).trans (hal2.mono (Nat.le_trans HBE.out.size hal1.size))
  rw [hs10] at v10
  obtain ⟨wf, hwf⟩ : ∃ wf, (we.alloc (.cells #[.slice B1 ps.length e1, .slice B2 rs.length e2] 32)).alloc (.cells #[.slice B3 qs.length e3, .slice B4 ss.length e4] 32) = wf := ⟨_, rfl⟩
  rw [hwf] at v9' v10 hbf
  have V9 := hide v9'
  have V10 := hide v10
  have HBF := hide hbf
  clear v9 v9' v10 hal1 hal2 s3 s4' hs10 hbf s1' s2 s3' s4 HBE
  have eq1 := HD1.out
  have eq2 := HD2.out
  clear HD1 HD2
  obtain ⟨d, hd⟩ : ∃ d, (d1 && d2) = d := ⟨_, rfl⟩
  have hsm := HSM.out
  have hsm2 := HSM2.out
  have hsg := HSIG.out (by trivial) (by trivial)
  rw [hd] at hsm hsm2 hsg
  clear HSM HSM2 HSIG
  have HSM := hide hsm
  have HSM2 := hide hsm2
  have HSIG := hide hsg
  clear hsm hsm2 hsg
  go_wp2_with fail
  try rw [hwf]
  have cv1 := V1.out _ HBF.out
  have cv2 := V2.out _ HBF.out
  have cv3 := V3.out _ HBF.out
  have cv4 := V4.out _ HBF.out
  rw [cv1]
  clear hwf
  generalize we.heap.size + 1 = b10 at *
  generalize we.heap.size = b9 at *
  clear HBA HBB HBC HBD
  cases d1 with
  | true =>
    obtain rfl : d2 = d := by simpa using hd
    clear hd
    go_wp2_with fail
    clear cv1 cv2 cv3 cv4
    --REGIONA
    refine wp_region_factsR grew_ext (factsOf [fun yy _ => yy = .agg #[.slice B1 ps.length e1, .slice B2 rs.length e2],
      fun yy _ => yy = .bool true,
      fun yy _ => yy = .bool true,
      fun yy _ => yy = .agg #[.slice B3 qs.length e3, .slice B4 ss.length e4],
      fun yy _ => yy = .bool true,
      fun yy _ => yy = .bool true,
      fun yy _ => yy = .bool true,
      fun yy _ => yy = .agg #[.slice B1 ps.length e1, .slice B2 rs.length e2],
      fun yy _ => yy = .string x1,
      fun yy _ => yy = .agg #[.slice B3 qs.length e3, .slice B4 ss.length e4],
      fun yy _ => yy = .string x2,
      fun yy _ => yy = .bool d2,
      fun yy _ => yy = .bool d2,
      fun yy _ => yy = .bool true,
      fun yy _ => yy = .bool true,
      fun yy _ => yy = .bool true,
      fun yy _ => yy = .agg #[.slice B1 ps.length e1, .slice B2 rs.length e2],
      fun yy _ => yy = .agg #[.slice B3 qs.length e3, .slice B4 ss.length e4],
      fun yy _ => yy = .bool d2,
      fun yy _ => yy = .bool d2,
      fun yy _ => yy = .bool true,
      fun yy _ => yy = .bool true,
      fun yy _ => yy = .bool true,
      fun yy _ => yy = .agg #[.slice B3 qs.length e3, .slice B4 ss.length e4],
      fun yy _ => yy = .agg #[.slice B1 ps.length e1, .slice B2 rs.length e2],
      fun yy _ => yy = .bool d2,
      fun yy _ => yy = .bool d2,
      fun yy _ => yy = .bool true,
      fun yy _ => yy = .bool true,
      fun yy _ => yy = .bool true]) (by kernel_rfl) (by kernel_rfl) ?_ ?_
    · refine ⟨?_, ?_, ?_, ?_, ?_, ?_, ?_, ?_, ?_, ?_, ?_, ?_, ?_, ?_, ?_, ?_, ?_, ?_, ?_, ?_, ?_, ?_, ?_, ?_, ?_, ?_, ?_, ?_, ?_, ?_, trivial⟩
      · refine ⟨fun ρ W hk => ?_⟩
        have o9 : ρ (.tmp 9) = .pointer (some ⟨b9, 0, none⟩) := hk.old 9 (by decide)
        have hv := V9.out.below hk.below
        exact OpOut.load (x := .tmp 9) rfl o9 (run_loadSig hv.at_.c0 hv.at_.c1) ⟨Below.refl _ _, rfl⟩
      · refine ⟨fun ρ W hk => ?_⟩
        have h0 := (hk.fact 0 75 (by decide) rfl).pure
        refine OpOut.fn (args := #[.agg #[.slice B1 ps.length e1, .slice B2 rs.length e2]]) rfl (hk.func _) (by simp [h0]) Tryd.func15 (by kernel_rfl) rfl ?_
        refine (HRI.out W _ (V9.out.below hk.below).is_).mono ?_; rintro e w5 ⟨rfl, hb5⟩
        exact ⟨_, rfl, hb5, rfl⟩
      · refine ⟨fun ρ W hk => ?_⟩
        have h1 := (hk.fact 1 76 (by decide) rfl).pure
        exact OpOut.move (.tmp 76) rfl ⟨Below.refl _ _, h1⟩
      · refine ⟨fun ρ W hk => ?_⟩
        have o10 : ρ (.tmp 10) = .pointer (some ⟨b10, 0, none⟩) := hk.old 10 (by decide)
        have h2 := (hk.fact 2 77 (by decide) rfl).pure
        refine ⟨77, rfl, .inl ⟨true, h2, fun _ => ?_, fun h => absurd rfl h⟩⟩
        have hv := V10.out.below hk.below
        exact OpOut.load (x := .tmp 10) rfl o10 (run_loadSig hv.at_.c0 hv.at_.c1) ⟨Below.refl _ _, rfl⟩
      · refine ⟨fun ρ W hk => ?_⟩
        have h3 := (hk.fact 3 78 (by decide) rfl).pure
        have h2 := (hk.fact 2 77 (by decide) rfl).pure
        refine ⟨77, rfl, .inl ⟨true, h2, fun _ => ?_, fun h => absurd rfl h⟩⟩
        refine OpOut.fn (args := #[.agg #[.slice B3 qs.length e3, .slice B4 ss.length e4]]) rfl (hk.func _) (by simp [h3]) Tryd.func15 (by kernel_rfl) rfl ?_
        refine (HRI2.out W _ (V10.out.below hk.below).is_).mono ?_; rintro e w5 ⟨rfl, hb5⟩
        exact ⟨_, rfl, hb5, rfl⟩
      · refine ⟨fun ρ W hk => ?_⟩
        have h2 := (hk.fact 2 77 (by decide) rfl).pure
        have h4 := (hk.fact 4 79 (by decide) rfl).pure
        exact OpOut.pick (c := .tmp 77) (b := true) rfl h2 ⟨Below.refl _ _, h4⟩
      · refine ⟨fun ρ W hk => ?_⟩
        have h5 := (hk.fact 5 80 (by decide) rfl).pure
        exact OpOut.move (.tmp 80) rfl ⟨Below.refl _ _, h5⟩
      · refine ⟨fun ρ W hk => ?_⟩
        have o9 : ρ (.tmp 9) = .pointer (some ⟨b9, 0, none⟩) := hk.old 9 (by decide)
        have h6 := (hk.fact 6 81 (by decide) rfl).pure
        refine ⟨81, rfl, .inl ⟨true, h6, fun _ => ?_, fun h => absurd rfl h⟩⟩
        have hv := V9.out.below hk.below
        exact OpOut.load (x := .tmp 9) rfl o9 (run_loadSig hv.at_.c0 hv.at_.c1) ⟨Below.refl _ _, rfl⟩
      · refine ⟨fun ρ W hk => ?_⟩
        have h7 := (hk.fact 7 82 (by decide) rfl).pure
        have h6 := (hk.fact 6 81 (by decide) rfl).pure
        refine ⟨81, rfl, .inl ⟨true, h6, fun _ => ?_, fun h => absurd rfl h⟩⟩
        refine OpOut.fn (args := #[.agg #[.slice B1 ps.length e1, .slice B2 rs.length e2]]) rfl (hk.func _) (by simp [h7]) Tryd.func14 (by kernel_rfl) rfl ?_
        refine (HPR.out W _ (V9.out.below hk.below).is_).mono ?_; rintro e w5 ⟨rfl, hb5⟩
        exact ⟨_, rfl, hb5, rfl⟩
      · refine ⟨fun ρ W hk => ?_⟩
        have o10 : ρ (.tmp 10) = .pointer (some ⟨b10, 0, none⟩) := hk.old 10 (by decide)
        have h6 := (hk.fact 6 81 (by decide) rfl).pure
        refine ⟨81, rfl, .inl ⟨true, h6, fun _ => ?_, fun h => absurd rfl h⟩⟩
        have hv := V10.out.below hk.below
        exact OpOut.load (x := .tmp 10) rfl o10 (run_loadSig hv.at_.c0 hv.at_.c1) ⟨Below.refl _ _, rfl⟩
      · refine ⟨fun ρ W hk => ?_⟩
        have h9 := (hk.fact 9 84 (by decide) rfl).pure
        have h6 := (hk.fact 6 81 (by decide) rfl).pure
        refine ⟨81, rfl, .inl ⟨true, h6, fun _ => ?_, fun h => absurd rfl h⟩⟩
        refine OpOut.fn (args := #[.agg #[.slice B3 qs.length e3, .slice B4 ss.length e4]]) rfl (hk.func _) (by simp [h9]) Tryd.func14 (by kernel_rfl) rfl ?_
        refine (HPR2.out W _ (V10.out.below hk.below).is_).mono ?_; rintro e w5 ⟨rfl, hb5⟩
        exact ⟨_, rfl, hb5, rfl⟩
      · refine ⟨fun ρ W hk => ?_⟩
        have h8 := (hk.fact 8 83 (by decide) rfl).pure
        have h10 := (hk.fact 10 85 (by decide) rfl).pure
        have h6 := (hk.fact 6 81 (by decide) rfl).pure
        refine ⟨81, rfl, .inl ⟨true, h6, fun _ => ?_, fun h => absurd rfl h⟩⟩
        exact OpOut.bin (x := .tmp 83) (y := .tmp 85) (v := .bool d2) rfl (by rw [h8, h10]; go_simp) (by rw [h8, h10]; exact run_eql_of HSIG.out W) ⟨Below.refl _ _, rfl⟩
      · refine ⟨fun ρ W hk => ?_⟩
        have o11 : ρ (.tmp 11) = .bool d2 := hk.old 11 (by decide)
        have h6 := (hk.fact 6 81 (by decide) rfl).pure
        refine ⟨81, rfl, .inl ⟨true, h6, fun _ => ?_, fun h => absurd rfl h⟩⟩
        exact OpOut.move (.tmp 11) rfl ⟨Below.refl _ _, o11⟩
      · refine ⟨fun ρ W hk => ?_⟩
        have h11 := (hk.fact 11 86 (by decide) rfl).pure
        have h12 := (hk.fact 12 87 (by decide) rfl).pure
        have h6 := (hk.fact 6 81 (by decide) rfl).pure
        refine ⟨81, rfl, .inl ⟨true, h6, fun _ => ?_, fun h => absurd rfl h⟩⟩
        exact OpOut.bin (x := .tmp 86) (y := .tmp 87) (v := .bool true) rfl (by rw [h11, h12]; go_simp) (by rw [h11, h12]; go_simp) ⟨Below.refl _ _, rfl⟩
      · refine ⟨fun ρ W hk => ?_⟩
        have h6 := (hk.fact 6 81 (by decide) rfl).pure
        have h13 := (hk.fact 13 88 (by decide) rfl).pure
        exact OpOut.pick (c := .tmp 81) (b := true) rfl h6 ⟨Below.refl _ _, h13⟩
      · refine ⟨fun ρ W hk => ?_⟩
        have h14 := (hk.fact 14 89 (by decide) rfl).pure
        exact OpOut.move (.tmp 89) rfl ⟨Below.refl _ _, h14⟩
      · refine ⟨fun ρ W hk => ?_⟩
        have o9 : ρ (.tmp 9) = .pointer (some ⟨b9, 0, none⟩) := hk.old 9 (by decide)
        have h15 := (hk.fact 15 90 (by decide) rfl).pure
        refine ⟨90, rfl, .inl ⟨true, h15, fun _ => ?_, fun h => absurd rfl h⟩⟩
        have hv := V9.out.below hk.below
        exact OpOut.load (x := .tmp 9) rfl o9 (run_loadSig hv.at_.c0 hv.at_.c1) ⟨Below.refl _ _, rfl⟩
      · refine ⟨fun ρ W hk => ?_⟩
        have o10 : ρ (.tmp 10) = .pointer (some ⟨b10, 0, none⟩) := hk.old 10 (by decide)
        have h15 := (hk.fact 15 90 (by decide) rfl).pure
        refine ⟨90, rfl, .inl ⟨true, h15, fun _ => ?_, fun h => absurd rfl h⟩⟩
        have hv := V10.out.below hk.below
        exact OpOut.load (x := .tmp 10) rfl o10 (run_loadSig hv.at_.c0 hv.at_.c1) ⟨Below.refl _ _, rfl⟩
      · refine ⟨fun ρ W hk => ?_⟩
        have h16 := (hk.fact 16 91 (by decide) rfl).pure
        have h17 := (hk.fact 17 92 (by decide) rfl).pure
        have h15 := (hk.fact 15 90 (by decide) rfl).pure
        refine ⟨90, rfl, .inl ⟨true, h15, fun _ => ?_, fun h => absurd rfl h⟩⟩
        refine OpOut.fn (args := #[.agg #[.slice B1 ps.length e1, .slice B2 rs.length e2], .agg #[.slice B3 qs.length e3, .slice B4 ss.length e4]]) rfl (hk.func _) (by simp [h16, h17]) Tryd.func17 (by kernel_rfl) rfl ?_
        refine (HSM.out W _ _ (V9.out.below hk.below).is_ (V10.out.below hk.below).is_).mono ?_; rintro e w5 ⟨rfl, hb5⟩
        exact ⟨_, rfl, hb5, rfl⟩
      · refine ⟨fun ρ W hk => ?_⟩
        have o11 : ρ (.tmp 11) = .bool d2 := hk.old 11 (by decide)
        have h15 := (hk.fact 15 90 (by decide) rfl).pure
        refine ⟨90, rfl, .inl ⟨true, h15, fun _ => ?_, fun h => absurd rfl h⟩⟩
        exact OpOut.move (.tmp 11) rfl ⟨Below.refl _ _, o11⟩
      · refine ⟨fun ρ W hk => ?_⟩
        have h18 := (hk.fact 18 93 (by decide) rfl).pure
        have h19 := (hk.fact 19 94 (by decide) rfl).pure
        have h15 := (hk.fact 15 90 (by decide) rfl).pure
        refine ⟨90, rfl, .inl ⟨true, h15, fun _ => ?_, fun h => absurd rfl h⟩⟩
        exact OpOut.bin (x := .tmp 93) (y := .tmp 94) (v := .bool true) rfl (by rw [h18, h19]; go_simp) (by rw [h18, h19]; go_simp) ⟨Below.refl _ _, rfl⟩
      · refine ⟨fun ρ W hk => ?_⟩
        have h15 := (hk.fact 15 90 (by decide) rfl).pure
        have h20 := (hk.fact 20 95 (by decide) rfl).pure
        exact OpOut.pick (c := .tmp 90) (b := true) rfl h15 ⟨Below.refl _ _, h20⟩
      · refine ⟨fun ρ W hk => ?_⟩
        have h21 := (hk.fact 21 96 (by decide) rfl).pure
        exact OpOut.move (.tmp 96) rfl ⟨Below.refl _ _, h21⟩
      · refine ⟨fun ρ W hk => ?_⟩
        have o10 : ρ (.tmp 10) = .pointer (some ⟨b10, 0, none⟩) := hk.old 10 (by decide)
        have h22 := (hk.fact 22 97 (by decide) rfl).pure
        refine ⟨97, rfl, .inl ⟨true, h22, fun _ => ?_, fun h => absurd rfl h⟩⟩
        have hv := V10.out.below hk.below
        exact OpOut.load (x := .tmp 10) rfl o10 (run_loadSig hv.at_.c0 hv.at_.c1) ⟨Below.refl _ _, rfl⟩
      · refine ⟨fun ρ W hk => ?_⟩
        have o9 : ρ (.tmp 9) = .pointer (some ⟨b9, 0, none⟩) := hk.old 9 (by decide)
        have h22 := (hk.fact 22 97 (by decide) rfl).pure
        refine ⟨97, rfl, .inl ⟨true, h22, fun _ => ?_, fun h => absurd rfl h⟩⟩
        have hv := V9.out.below hk.below
        exact OpOut.load (x := .tmp 9) rfl o9 (run_loadSig hv.at_.c0 hv.at_.c1) ⟨Below.refl _ _, rfl⟩
      · refine ⟨fun ρ W hk => ?_⟩
        have h23 := (hk.fact 23 98 (by decide) rfl).pure
        have h24 := (hk.fact 24 99 (by decide) rfl).pure
        have h22 := (hk.fact 22 97 (by decide) rfl).pure
        refine ⟨97, rfl, .inl ⟨true, h22, fun _ => ?_, fun h => absurd rfl h⟩⟩
        refine OpOut.fn (args := #[.agg #[.slice B3 qs.length e3, .slice B4 ss.length e4], .agg #[.slice B1 ps.length e1, .slice B2 rs.length e2]]) rfl (hk.func _) (by simp [h23, h24]) Tryd.func17 (by kernel_rfl) rfl ?_
        refine (HSM2.out W _ _ (V10.out.below hk.below).is_ (V9.out.below hk.below).is_).mono ?_; rintro e w5 ⟨rfl, hb5⟩
        exact ⟨_, rfl, hb5, rfl⟩
      · refine ⟨fun ρ W hk => ?_⟩
        have o11 : ρ (.tmp 11) = .bool d2 := hk.old 11 (by decide)
        have h22 := (hk.fact 22 97 (by decide) rfl).pure
        refine ⟨97, rfl, .inl ⟨true, h22, fun _ => ?_, fun h => absurd rfl h⟩⟩
        exact OpOut.move (.tmp 11) rfl ⟨Below.refl _ _, o11⟩
      · refine ⟨fun ρ W hk => ?_⟩
        have h25 := (hk.fact 25 100 (by decide) rfl).pure
        have h26 := (hk.fact 26 101 (by decide) rfl).pure
        have h22 := (hk.fact 22 97 (by decide) rfl).pure
        refine ⟨97, rfl, .inl ⟨true, h22, fun _ => ?_, fun h => absurd rfl h⟩⟩
        exact OpOut.bin (x := .tmp 100) (y := .tmp 101) (v := .bool true) rfl (by rw [h25, h26]; go_simp) (by rw [h25, h26]; go_simp) ⟨Below.refl _ _, rfl⟩
      · refine ⟨fun ρ W hk => ?_⟩
        have h22 := (hk.fact 22 97 (by decide) rfl).pure
        have h27 := (hk.fact 27 102 (by decide) rfl).pure
        exact OpOut.pick (c := .tmp 97) (b := true) rfl h22 ⟨Below.refl _ _, h27⟩
      · refine ⟨fun ρ W hk => ?_⟩
        have h28 := (hk.fact 28 103 (by decide) rfl).pure
        exact OpOut.assign (.tmp 103) rfl ⟨Below.refl _ _, h28⟩
    · intro vs W hb hf
      have h29 := (hf 29 (by decide)).pure
      clear hf
      simp only [fillL]
      go_frame
      rw [h29]
    --ENDA
      have HF := hide (HBF.out.trans (hb.mono HBF.out.size))
      clear hb
      go_wp2_with fail
      go_ret
      exact ⟨rfl, HF.out⟩
  | false =>
    obtain rfl : d = false := by simpa using hd.symm
    clear hd
    go_wp2_with fail
    clear cv1 cv2 cv3 cv4
    --REGIONB
    refine wp_region_factsR grew_ext (factsOf [fun yy _ => yy = .agg #[.slice B1 ps.length e1, .slice B2 rs.length e2],
      fun yy _ => yy = .bool true,
      fun yy _ => yy = .bool true,
      fun yy _ => yy = .agg #[.slice B3 qs.length e3, .slice B4 ss.length e4],
      fun yy _ => yy = .bool true,
      fun yy _ => yy = .bool true,
      fun yy _ => yy = .bool true,
      fun yy _ => yy = .agg #[.slice B1 ps.length e1, .slice B2 rs.length e2],
      fun yy _ => yy = .string x1,
      fun yy _ => yy = .agg #[.slice B3 qs.length e3, .slice B4 ss.length e4],
      fun yy _ => yy = .string x2,
      fun yy _ => yy = .bool false,
      fun yy _ => yy = .bool false,
      fun yy _ => yy = .bool true,
      fun yy _ => yy = .bool true,
      fun yy _ => yy = .bool true,
      fun yy _ => yy = .agg #[.slice B1 ps.length e1, .slice B2 rs.length e2],
      fun yy _ => yy = .agg #[.slice B3 qs.length e3, .slice B4 ss.length e4],
      fun yy _ => yy = .bool false,
      fun yy _ => yy = .bool false,
      fun yy _ => yy = .bool true,
      fun yy _ => yy = .bool true,
      fun yy _ => yy = .bool true,
      fun yy _ => yy = .agg #[.slice B3 qs.length e3, .slice B4 ss.length e4],
      fun yy _ => yy = .agg #[.slice B1 ps.length e1, .slice B2 rs.length e2],
      fun yy _ => yy = .bool false,
      fun yy _ => yy = .bool false,
      fun yy _ => yy = .bool true,
      fun yy _ => yy = .bool true,
      fun yy _ => yy = .bool true]) (by kernel_rfl) (by kernel_rfl) ?_ ?_
    · refine ⟨?_, ?_, ?_, ?_, ?_, ?_, ?_, ?_, ?_, ?_, ?_, ?_, ?_, ?_, ?_, ?_, ?_, ?_, ?_, ?_, ?_, ?_, ?_, ?_, ?_, ?_, ?_, ?_, ?_, ?_, trivial⟩
      · refine ⟨fun ρ W hk => ?_⟩
        have o9 : ρ (.tmp 9) = .pointer (some ⟨b9, 0, none⟩) := hk.old 9 (by decide)
        have hv := V9.out.below hk.below
        exact OpOut.load (x := .tmp 9) rfl o9 (run_loadSig hv.at_.c0 hv.at_.c1) ⟨Below.refl _ _, rfl⟩
      · refine ⟨fun ρ W hk => ?_⟩
        have h0 := (hk.fact 0 75 (by decide) rfl).pure
        refine OpOut.fn (args := #[.agg #[.slice B1 ps.length e1, .slice B2 rs.length e2]]) rfl (hk.func _) (by simp [h0]) Tryd.func15 (by kernel_rfl) rfl ?_
        refine (HRI.out W _ (V9.out.below hk.below).is_).mono ?_; rintro e w5 ⟨rfl, hb5⟩
        exact ⟨_, rfl, hb5, rfl⟩
      · refine ⟨fun ρ W hk => ?_⟩
        have h1 := (hk.fact 1 76 (by decide) rfl).pure
        exact OpOut.move (.tmp 76) rfl ⟨Below.refl _ _, h1⟩
      · refine ⟨fun ρ W hk => ?_⟩
        have o10 : ρ (.tmp 10) = .pointer (some ⟨b10, 0, none⟩) := hk.old 10 (by decide)
        have h2 := (hk.fact 2 77 (by decide) rfl).pure
        refine ⟨77, rfl, .inl ⟨true, h2, fun _ => ?_, fun h => absurd rfl h⟩⟩
        have hv := V10.out.below hk.below
        exact OpOut.load (x := .tmp 10) rfl o10 (run_loadSig hv.at_.c0 hv.at_.c1) ⟨Below.refl _ _, rfl⟩
      · refine ⟨fun ρ W hk => ?_⟩
        have h3 := (hk.fact 3 78 (by decide) rfl).pure
        have h2 := (hk.fact 2 77 (by decide) rfl).pure
        refine ⟨77, rfl, .inl ⟨true, h2, fun _ => ?_, fun h => absurd rfl h⟩⟩
        refine OpOut.fn (args := #[.agg #[.slice B3 qs.length e3, .slice B4 ss.length e4]]) rfl (hk.func _) (by simp [h3]) Tryd.func15 (by kernel_rfl) rfl ?_
        refine (HRI2.out W _ (V10.out.below hk.below).is_).mono ?_; rintro e w5 ⟨rfl, hb5⟩
        exact ⟨_, rfl, hb5, rfl⟩
      · refine ⟨fun ρ W hk => ?_⟩
        have h2 := (hk.fact 2 77 (by decide) rfl).pure
        have h4 := (hk.fact 4 79 (by decide) rfl).pure
        exact OpOut.pick (c := .tmp 77) (b := true) rfl h2 ⟨Below.refl _ _, h4⟩
      · refine ⟨fun ρ W hk => ?_⟩
        have h5 := (hk.fact 5 80 (by decide) rfl).pure
        exact OpOut.move (.tmp 80) rfl ⟨Below.refl _ _, h5⟩
      · refine ⟨fun ρ W hk => ?_⟩
        have o9 : ρ (.tmp 9) = .pointer (some ⟨b9, 0, none⟩) := hk.old 9 (by decide)
        have h6 := (hk.fact 6 81 (by decide) rfl).pure
        refine ⟨81, rfl, .inl ⟨true, h6, fun _ => ?_, fun h => absurd rfl h⟩⟩
        have hv := V9.out.below hk.below
        exact OpOut.load (x := .tmp 9) rfl o9 (run_loadSig hv.at_.c0 hv.at_.c1) ⟨Below.refl _ _, rfl⟩
      · refine ⟨fun ρ W hk => ?_⟩
        have h7 := (hk.fact 7 82 (by decide) rfl).pure
        have h6 := (hk.fact 6 81 (by decide) rfl).pure
        refine ⟨81, rfl, .inl ⟨true, h6, fun _ => ?_, fun h => absurd rfl h⟩⟩
        refine OpOut.fn (args := #[.agg #[.slice B1 ps.length e1, .slice B2 rs.length e2]]) rfl (hk.func _) (by simp [h7]) Tryd.func14 (by kernel_rfl) rfl ?_
        refine (HPR.out W _ (V9.out.below hk.below).is_).mono ?_; rintro e w5 ⟨rfl, hb5⟩
        exact ⟨_, rfl, hb5, rfl⟩
      · refine ⟨fun ρ W hk => ?_⟩
        have o10 : ρ (.tmp 10) = .pointer (some ⟨b10, 0, none⟩) := hk.old 10 (by decide)
        have h6 := (hk.fact 6 81 (by decide) rfl).pure
        refine ⟨81, rfl, .inl ⟨true, h6, fun _ => ?_, fun h => absurd rfl h⟩⟩
        have hv := V10.out.below hk.below
        exact OpOut.load (x := .tmp 10) rfl o10 (run_loadSig hv.at_.c0 hv.at_.c1) ⟨Below.refl _ _, rfl⟩
      · refine ⟨fun ρ W hk => ?_⟩
        have h9 := (hk.fact 9 84 (by decide) rfl).pure
        have h6 := (hk.fact 6 81 (by decide) rfl).pure
        refine ⟨81, rfl, .inl ⟨true, h6, fun _ => ?_, fun h => absurd rfl h⟩⟩
        refine OpOut.fn (args := #[.agg #[.slice B3 qs.length e3, .slice B4 ss.length e4]]) rfl (hk.func _) (by simp [h9]) Tryd.func14 (by kernel_rfl) rfl ?_
        refine (HPR2.out W _ (V10.out.below hk.below).is_).mono ?_; rintro e w5 ⟨rfl, hb5⟩
        exact ⟨_, rfl, hb5, rfl⟩
      · refine ⟨fun ρ W hk => ?_⟩
        have h8 := (hk.fact 8 83 (by decide) rfl).pure
        have h10 := (hk.fact 10 85 (by decide) rfl).pure
        have h6 := (hk.fact 6 81 (by decide) rfl).pure
        refine ⟨81, rfl, .inl ⟨true, h6, fun _ => ?_, fun h => absurd rfl h⟩⟩
        exact OpOut.bin (x := .tmp 83) (y := .tmp 85) (v := .bool false) rfl (by rw [h8, h10]; go_simp) (by rw [h8, h10]; exact run_eql_of HSIG.out W) ⟨Below.refl _ _, rfl⟩
      · refine ⟨fun ρ W hk => ?_⟩
        have o11 : ρ (.tmp 11) = .bool false := hk.old 11 (by decide)
        have h6 := (hk.fact 6 81 (by decide) rfl).pure
        refine ⟨81, rfl, .inl ⟨true, h6, fun _ => ?_, fun h => absurd rfl h⟩⟩
        exact OpOut.move (.tmp 11) rfl ⟨Below.refl _ _, o11⟩
      · refine ⟨fun ρ W hk => ?_⟩
        have h11 := (hk.fact 11 86 (by decide) rfl).pure
        have h12 := (hk.fact 12 87 (by decide) rfl).pure
        have h6 := (hk.fact 6 81 (by decide) rfl).pure
        refine ⟨81, rfl, .inl ⟨true, h6, fun _ => ?_, fun h => absurd rfl h⟩⟩
        exact OpOut.bin (x := .tmp 86) (y := .tmp 87) (v := .bool true) rfl (by rw [h11, h12]; go_simp) (by rw [h11, h12]; go_simp) ⟨Below.refl _ _, rfl⟩
      · refine ⟨fun ρ W hk => ?_⟩
        have h6 := (hk.fact 6 81 (by decide) rfl).pure
        have h13 := (hk.fact 13 88 (by decide) rfl).pure
        exact OpOut.pick (c := .tmp 81) (b := true) rfl h6 ⟨Below.refl _ _, h13⟩
      · refine ⟨fun ρ W hk => ?_⟩
        have h14 := (hk.fact 14 89 (by decide) rfl).pure
        exact OpOut.move (.tmp 89) rfl ⟨Below.refl _ _, h14⟩
      · refine ⟨fun ρ W hk => ?_⟩
        have o9 : ρ (.tmp 9) = .pointer (some ⟨b9, 0, none⟩) := hk.old 9 (by decide)
        have h15 := (hk.fact 15 90 (by decide) rfl).pure
        refine ⟨90, rfl, .inl ⟨true, h15, fun _ => ?_, fun h => absurd rfl h⟩⟩
        have hv := V9.out.below hk.below
        exact OpOut.load (x := .tmp 9) rfl o9 (run_loadSig hv.at_.c0 hv.at_.c1) ⟨Below.refl _ _, rfl⟩
      · refine ⟨fun ρ W hk => ?_⟩
        have o10 : ρ (.tmp 10) = .pointer (some ⟨b10, 0, none⟩) := hk.old 10 (by decide)
        have h15 := (hk.fact 15 90 (by decide) rfl).pure
        refine ⟨90, rfl, .inl ⟨true, h15, fun _ => ?_, fun h => absurd rfl h⟩⟩
        have hv := V10.out.below hk.below
        exact OpOut.load (x := .tmp 10) rfl o10 (run_loadSig hv.at_.c0 hv.at_.c1) ⟨Below.refl _ _, rfl⟩
      · refine ⟨fun ρ W hk => ?_⟩
        have h16 := (hk.fact 16 91 (by decide) rfl).pure
        have h17 := (hk.fact 17 92 (by decide) rfl).pure
        have h15 := (hk.fact 15 90 (by decide) rfl).pure
        refine ⟨90, rfl, .inl ⟨true, h15, fun _ => ?_, fun h => absurd rfl h⟩⟩
        refine OpOut.fn (args := #[.agg #[.slice B1 ps.length e1, .slice B2 rs.length e2], .agg #[.slice B3 qs.length e3, .slice B4 ss.length e4]]) rfl (hk.func _) (by simp [h16, h17]) Tryd.func17 (by kernel_rfl) rfl ?_
        refine (HSM.out W _ _ (V9.out.below hk.below).is_ (V10.out.below hk.below).is_).mono ?_; rintro e w5 ⟨rfl, hb5⟩
        exact ⟨_, rfl, hb5, rfl⟩
      · refine ⟨fun ρ W hk => ?_⟩
        have o11 : ρ (.tmp 11) = .bool false := hk.old 11 (by decide)
        have h15 := (hk.fact 15 90 (by decide) rfl).pure
        refine ⟨90, rfl, .inl ⟨true, h15, fun _ => ?_, fun h => absurd rfl h⟩⟩
        exact OpOut.move (.tmp 11) rfl ⟨Below.refl _ _, o11⟩
      · refine ⟨fun ρ W hk => ?_⟩
        have h18 := (hk.fact 18 93 (by decide) rfl).pure
        have h19 := (hk.fact 19 94 (by decide) rfl).pure
        have h15 := (hk.fact 15 90 (by decide) rfl).pure
        refine ⟨90, rfl, .inl ⟨true, h15, fun _ => ?_, fun h => absurd rfl h⟩⟩
        exact OpOut.bin (x := .tmp 93) (y := .tmp 94) (v := .bool true) rfl (by rw [h18, h19]; go_simp) (by rw [h18, h19]; go_simp) ⟨Below.refl _ _, rfl⟩
      · refine ⟨fun ρ W hk => ?_⟩
        have h15 := (hk.fact 15 90 (by decide) rfl).pure
        have h20 := (hk.fact 20 95 (by decide) rfl).pure
        exact OpOut.pick (c := .tmp 90) (b := true) rfl h15 ⟨Below.refl _ _, h20⟩
      · refine ⟨fun ρ W hk => ?_⟩
        have h21 := (hk.fact 21 96 (by decide) rfl).pure
        exact OpOut.move (.tmp 96) rfl ⟨Below.refl _ _, h21⟩
      · refine ⟨fun ρ W hk => ?_⟩
        have o10 : ρ (.tmp 10) = .pointer (some ⟨b10, 0, none⟩) := hk.old 10 (by decide)
        have h22 := (hk.fact 22 97 (by decide) rfl).pure
        refine ⟨97, rfl, .inl ⟨true, h22, fun _ => ?_, fun h => absurd rfl h⟩⟩
        have hv := V10.out.below hk.below
        exact OpOut.load (x := .tmp 10) rfl o10 (run_loadSig hv.at_.c0 hv.at_.c1) ⟨Below.refl _ _, rfl⟩
      · refine ⟨fun ρ W hk => ?_⟩
        have o9 : ρ (.tmp 9) = .pointer (some ⟨b9, 0, none⟩) := hk.old 9 (by decide)
        have h22 := (hk.fact 22 97 (by decide) rfl).pure
        refine ⟨97, rfl, .inl ⟨true, h22, fun _ => ?_, fun h => absurd rfl h⟩⟩
        have hv := V9.out.below hk.below
        exact OpOut.load (x := .tmp 9) rfl o9 (run_loadSig hv.at_.c0 hv.at_.c1) ⟨Below.refl _ _, rfl⟩
      · refine ⟨fun ρ W hk => ?_⟩
        have h23 := (hk.fact 23 98 (by decide) rfl).pure
        have h24 := (hk.fact 24 99 (by decide) rfl).pure
        have h22 := (hk.fact 22 97 (by decide) rfl).pure
        refine ⟨97, rfl, .inl ⟨true, h22, fun _ => ?_, fun h => absurd rfl h⟩⟩
        refine OpOut.fn (args := #[.agg #[.slice B3 qs.length e3, .slice B4 ss.length e4], .agg #[.slice B1 ps.length e1, .slice B2 rs.length e2]]) rfl (hk.func _) (by simp [h23, h24]) Tryd.func17 (by kernel_rfl) rfl ?_
        refine (HSM2.out W _ _ (V10.out.below hk.below).is_ (V9.out.below hk.below).is_).mono ?_; rintro e w5 ⟨rfl, hb5⟩
        exact ⟨_, rfl, hb5, rfl⟩
      · refine ⟨fun ρ W hk => ?_⟩
        have o11 : ρ (.tmp 11) = .bool false := hk.old 11 (by decide)
        have h22 := (hk.fact 22 97 (by decide) rfl).pure
        refine ⟨97, rfl, .inl ⟨true, h22, fun _ => ?_, fun h => absurd rfl h⟩⟩
        exact OpOut.move (.tmp 11) rfl ⟨Below.refl _ _, o11⟩
      · refine ⟨fun ρ W hk => ?_⟩
        have h25 := (hk.fact 25 100 (by decide) rfl).pure
        have h26 := (hk.fact 26 101 (by decide) rfl).pure
        have h22 := (hk.fact 22 97 (by decide) rfl).pure
        refine ⟨97, rfl, .inl ⟨true, h22, fun _ => ?_, fun h => absurd rfl h⟩⟩
        exact OpOut.bin (x := .tmp 100) (y := .tmp 101) (v := .bool true) rfl (by rw [h25, h26]; go_simp) (by rw [h25, h26]; go_simp) ⟨Below.refl _ _, rfl⟩
      · refine ⟨fun ρ W hk => ?_⟩
        have h22 := (hk.fact 22 97 (by decide) rfl).pure
        have h27 := (hk.fact 27 102 (by decide) rfl).pure
        exact OpOut.pick (c := .tmp 97) (b := true) rfl h22 ⟨Below.refl _ _, h27⟩
      · refine ⟨fun ρ W hk => ?_⟩
        have h28 := (hk.fact 28 103 (by decide) rfl).pure
        exact OpOut.assign (.tmp 103) rfl ⟨Below.refl _ _, h28⟩
    · intro vs W hb hf
      have h29 := (hf 29 (by decide)).pure
      clear hf
      simp only [fillL]
      go_frame
      rw [h29]
    --ENDB
      have HF := hide (HBF.out.trans (hb.mono HBF.out.size))
      clear hb
      go_wp2_with fail
      go_ret
      exact ⟨rfl, HF.out⟩
set_option maxHeartbeats 800000 in
/-- TypesApart's walk for the row -/
theorem TypesApart_walk (A1 : Option Addr) (c1 : Nat) (ps : List UInt8) (A2 : Option Addr) (c2 : Nat) (rs : List UInt8) (A3 : Option Addr) (c3 : Nat) (qs : List UInt8) (A4 : Option Addr) (c4 : Nat) (ss : List UInt8) (w : World)
    (r1 : Reads w w.heap.size 1 A1 ps.length (ps.map B)) (k1 : ps.length ≤ c1) (m1 : c1 ≤ maxLen) (r2 : Reads w w.heap.size 1 A2 rs.length (rs.map B)) (k2 : rs.length ≤ c2) (m2 : c2 ≤ maxLen) (r3 : Reads w w.heap.size 1 A3 qs.length (qs.map B)) (k3 : qs.length ≤ c3) (m3 : c3 ≤ maxLen) (r4 : Reads w w.heap.size 1 A4 ss.length (ss.map B)) (k4 : ss.length ≤ c4) (m4 : c4 ≤ maxLen) (ht : LaidT w) :
    Calls Tryd.prog 6 #[.slice A1 ps.length c1, .slice A2 rs.length c2, .slice A3 qs.length c3, .slice A4 ss.length c4] w fun e w' => e = .returned (.bool true) ∧ Below w.heap.size w w' := by
  by_cases h1 : ps.length ≤ 30
  · by_cases h2 : rs.length ≤ 30
    · by_cases h3 : qs.length ≤ 30
      · by_cases h4 : ss.length ≤ 30
        · exact tapart_any A1 c1 ps A2 c2 rs A3 c3 qs A4 c4 ss w r1 r2 r3 r4 h1 h2 h3 h4 ht
        · have HA := hide (awakeT w ht)
          clear r1 r2 r3 r4 ht
          unfold maxLen at m1 m2 m3 m4
          go_enter Tryd.func6, Tryd.ntmps6
          go_wp2_with fail
          refine HA.out.mono ?_; rintro e wa ⟨rfl, hba⟩
          have HBA := hide hba
          clear hba
          go_wp2_with fail
          go_ret
          exact ⟨rfl, HBA.out⟩
      · have HA := hide (awakeT w ht)
        clear r1 r2 r3 r4 ht
        unfold maxLen at m1 m2 m3 m4
        go_enter Tryd.func6, Tryd.ntmps6
        go_wp2_with fail
        refine HA.out.mono ?_; rintro e wa ⟨rfl, hba⟩
        have HBA := hide hba
        clear hba
        go_wp2_with fail
        go_ret
        exact ⟨rfl, HBA.out⟩
    · have HA := hide (awakeT w ht)
      clear r1 r2 r3 r4 ht
      unfold maxLen at m1 m2 m3 m4
      go_enter Tryd.func6, Tryd.ntmps6
      go_wp2_with fail
      refine HA.out.mono ?_; rintro e wa ⟨rfl, hba⟩
      have HBA := hide hba
      clear hba
      go_wp2_with fail
      go_ret
      exact ⟨rfl, HBA.out⟩
  · have HA := hide (awakeT w ht)
    clear r1 r2 r3 r4 ht
    unfold maxLen at m1 m2 m3 m4
    go_enter Tryd.func6, Tryd.ntmps6
    go_wp2_with fail
    refine HA.out.mono ?_; rintro e wa ⟨rfl, hba⟩
    have HBA := hide hba
    clear hba
    go_wp2_with fail
    go_ret
    exact ⟨rfl, HBA.out⟩
end Go.Proofs.YtgohojbgcjiebaaDoor
