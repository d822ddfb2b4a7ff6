/-
  types: TypesPrint: the walk.
-/
import Derived.Test.YtgohojbgcjiebaaDoorTypesP
namespace Go.Proofs.YtgohojbgcjiebaaDoor
open Go.RowKit
set_option linter.unusedVariables false

theorem run_loadSig {w : World} {b : Nat} {u v : Value} (h0 : w.cell? ⟨b, 0, none⟩ = some u) (h1 : w.cell? ⟨b, 1, none⟩ = some v) : (Instr.loadAt 32 (.pointer (some ⟨b, 0, none⟩))).run Tryd.prog w = .ok (.agg #[u, v]) w := by
  go_simp
theorem run_eql_str (a b : List UInt8) (W : World) : (binOp .eql 9 (.string ⟨a.toArray⟩) (.string ⟨b.toArray⟩)).run Tryd.prog W = .ok (.bool (decide (a = b))) W := by
  by_cases h : a = b
  · subst h
    rw [decide_eq_true rfl]
    exact run_eql_same _ W
  · rw [decide_eq_false h]
    go_simp
theorem run_eql_str' {a b : List UInt8} {q : Bool} (h : decide (a = b) = q) (W : World) : (binOp .eql 9 (.string ⟨a.toArray⟩) (.string ⟨b.toArray⟩)).run Tryd.prog W = .ok (.bool q) W := by
  rw [← h]
  exact run_eql_str a b W

/-- a local variable of the type: its block -/
structure SigAt (w : World) (b : Nat) (u v : Value) : Prop where
  ex : w.heap[b]? = some (.cells #[u, v] 32 (0, 0))
theorem SigAt.below {w w' : World} {n b : Nat} {u v : Value} (h : SigAt w b u v) (hb : Below n w w') (hn : b < n) : SigAt w' b u v := ⟨(hb.block b hn).trans h.ex⟩
theorem SigAt.c0 {w : World} {b : Nat} {u v : Value} (h : SigAt w b u v) : w.cell? ⟨b, 0, none⟩ = some u := cell_blk h.ex 0
theorem SigAt.c1 {w : World} {b : Nat} {u v : Value} (h : SigAt w b u v) : w.cell? ⟨b, 1, none⟩ = some v := cell_blk h.ex 1
/-- a local variable that holds a signature -/
structure SigVar (w : World) (b : Nat) (u v : Value) (ps rs : List UInt8) : Prop where
  at_ : SigAt w b u v
  lt : b < w.heap.size
  is_ : SigIs w (.agg #[u, v]) ps rs
theorem SigVar.below {w w' : World} {b : Nat} {u v : Value} {ps rs : List UInt8} (h : SigVar w b u v ps rs) (hb : Below w.heap.size w w') : SigVar w' b u v ps rs :=
  ⟨h.at_.below hb h.lt, Nat.lt_of_lt_of_le h.lt hb.size, h.is_.below hb⟩
theorem SigVar.new {w : World} {u v : Value} {ps rs : List UInt8} (h : SigIs w (.agg #[u, v]) ps rs) : SigVar (w.alloc (.cells #[u, v] 32)) w.heap.size u v ps rs :=
  ⟨⟨heap_alloc_new w _⟩, by simp, h.below ((Below.refl _ _).alloc (Nat.le_refl _) _)⟩
theorem SigIs.of {w : World} {A1 A2 : Option Addr} {c1 c2 : Nat} {ps rs : List UInt8} (r1 : Hid (Reads w w.heap.size 1 A1 ps.length (ps.map B))) (r2 : Hid (Reads w w.heap.size 1 A2 rs.length (rs.map B))) : SigIs w (.agg #[.slice A1 ps.length c1, .slice A2 rs.length c2]) ps rs := ⟨A1, c1, A2, c2, rfl, r1, r2⟩

set_option maxHeartbeats 800000 in
set_option maxRecDepth 100000 in
theorem tprint_any (A1 : Option Addr) (c1 : Nat) (ps : List UInt8) (A2 : Option Addr) (c2 : Nat) (rs : List UInt8) (A3 : Option Addr) (c3 : Nat) (qs : List UInt8) (w : World)
    (r1 : Reads w w.heap.size 1 A1 ps.length (ps.map B)) (r2 : Reads w w.heap.size 1 A2 rs.length (rs.map B)) (r3 : Reads w w.heap.size 1 A3 qs.length (qs.map B))
    (h1 : ps.length ≤ 30) (h2 : rs.length ≤ 30) (h3 : qs.length ≤ 30) (ht : LaidT w) :
    Calls Tryd.prog 4 #[.slice A1 ps.length c1, .slice A2 rs.length c2, .slice A3 qs.length c3] w fun e w' => e = .returned (.bool true) ∧ Below w.heap.size w w' := by
  have HA := hide (awakeT w ht)
  have HT := hide ht
  have T1 := hide (fun W (h : Below w.heap.size w W) => to_any A1 c1 ps W ((r1.below h).more h.size) (by omega))
  have T2 := hide (fun W (h : Below w.heap.size w W) => to_any A2 c2 rs W ((r2.below h).more h.size) (by omega))
  have T3 := hide (fun W (h : Below w.heap.size w W) => to_any A3 c3 qs W ((r3.below h).more h.size) (by omega))
  have hr1 := (fun W (h : Below w.heap.size w W) => lright_any A1 c1 ps W ((r1.below h).more h.size) (by omega))
  have hr2 := (fun W (h : Below w.heap.size w W) => lright_any A2 c2 rs W ((r2.below h).more h.size) (by omega))
  have hl1 := (fun W (h : Below w.heap.size w W) => rlist_any A1 c1 ps W ((r1.below h).more h.size) (by omega))
  have hl2 := (fun W (h : Below w.heap.size w W) => rlist_any A2 c2 rs W ((r2.below h).more h.size) (by omega))
  have RR2 := hide r2
  have RR3 := hide r3
  have hll := print_len ps rs (by omega) (by omega)
  have hll2 := listL_len ps
  have hll3 := listL_len rs
  have hpr := fun (W : World) (v : Value) (h : SigIs W v ps rs) => print_any v ps rs W h (by omega) (by omega)
  have hri := fun (W : World) (v : Value) (h : SigIs W v ps rs) => right_any v ps rs W h (by omega) (by omega)
  have hsm := fun (W : World) (v1 v2 : Value) (h : SigIs W v1 ps rs) (h' : SigIs W v2 ps qs) => same_any v1 v2 ps rs ps qs W h h' (by omega) (by omega) (by omega) (by omega)
  have hss := fun (W : World) (v1 v2 : Value) (h : SigIs W v1 ps rs) (h' : SigIs W v2 ps rs) => same_any v1 v2 ps rs ps rs W h h' (by omega) (by omega) (by omega) (by omega)
  simp only [decide_true, Bool.true_and, Bool.and_true] at hsm hss
  have hps := fun (W : World) (hW : Below w.heap.size w W) => parseSig_any (sigL ps rs) W (by unfold sigL; simp only [List.length_append, List.length_cons, List.length_nil]; omega) (LaidT.below ht hW : LaidT W)
  unfold ParseSigP at hps
  rw [sigOk_iff] at hps
  have hpsT : (fewT ps && fewT rs) = true → ∀ W, Below w.heap.size w W → Calls Tryd.prog 13 #[.string ⟨(sigL ps rs).toArray⟩] W fun e w' => Below W.heap.size W w' ∧ ∃ v, e = .returned (.tuple #[v, .int .i64 0]) ∧ SigIs w' v ps rs := by
    intro hq W hW
    refine (hps W hW).mono fun e w' h => ⟨h.1, ?_⟩
    rcases h.2 with ⟨h1, v, rfl, hs⟩ | ⟨h1, v, rfl, hs⟩
    · obtain ⟨g1, g2⟩ := Bool.and_eq_true_iff.1 h1
      obtain ⟨_, k1, k2⟩ := sig_back ps rs g1 g2
      rw [k1, k2] at hs
      exact ⟨v, rfl, hs⟩
    · rw [hq] at h1; cases h1
  have hpsF : (fewT ps && fewT rs) = false → ∀ W, Below w.heap.size w W → Calls Tryd.prog 13 #[.string ⟨(sigL ps rs).toArray⟩] W fun e w' => Below W.heap.size W w' ∧ ∃ v, e = .returned (.tuple #[v, .int .i64 4]) ∧ SigIs w' v [] [] := by
    intro hq W hW
    refine (hps W hW).mono fun e w' h => ⟨h.1, ?_⟩
    rcases h.2 with ⟨h1, v, rfl, hs⟩ | ⟨h1, v, rfl, hs⟩
    · rw [hq] at h1; cases h1
    · exact ⟨v, rfl, hs⟩
  clear hps
  have hpr2 := hpr
  obtain ⟨sx, hsx⟩ : ∃ sx : ByteArray, ⟨(sigL ps rs).toArray⟩ = sx := ⟨_, rfl⟩
  rw [hsx] at hpr hpsT hpsF
  clear hsx
  unfold sigL at hpr2
  have HL1 : Hid ((listL ps).length ≤ 4002) := hll.1
  have HL2 : Hid ((listL rs).length ≤ 4002) := hll.2
  clear hll hll2 hll3
  generalize listL ps = l1 at *
  generalize listL rs = l2 at *
  generalize fewT ps = q1 at *
  generalize fewT rs = q2 at *
  obtain ⟨d, hd⟩ : ∃ d, d = decide (rs = qs) := ⟨_, rfl⟩
  rw [← hd] at hsm
  have HD := hide hd
  have L1 := hide hl1
  have L2 := hide hl2
  have R1 := hide hr1
  have R2 := hide hr2
  have HPR := hide hpr
  have HSM := hide hsm
  have HSS := hide hss
  have HPR2 := hide hpr2
  obtain ⟨q, hq⟩ : ∃ q, (q1 && q2) = q := ⟨_, rfl⟩
  rw [hq] at hpsT hpsF hri
  have HRI := hide hri
  have HQ := hide hq
  have HPST := hide hpsT
  have HPSF := hide hpsF
  clear hl1 hl2 hr1 hr2 hpr hri hpsT hpsF hpr2 hq hsm hss hd
  clear r1 r2 r3 ht
  go_enter Tryd.func4, Tryd.ntmps4
  go_wp2_with fail
  refine HA.out.mono ?_; rintro e wa ⟨rfl, hba⟩
  have HBA := hide hba
  clear hba HA
  go_wp2_with fail
  refine (T1.out wa HBA.out).mono ?_; rintro e wb ⟨B1, d1, rfl, s1, hbb⟩
  have HBB := hide (HBA.out.trans (hbb.mono HBA.out.size))
  clear hbb
  go_wp2_with fail
  refine (T2.out wb HBB.out).mono ?_; rintro e wc ⟨B2, d2, rfl, s2, hbc⟩
  have HBC := hide (HBB.out.trans (hbc.mono HBB.out.size))
  have s1' : Hid (Reads wc wc.heap.size 1 B1 ps.length (ps.map B)) := (s1.out.below hbc).more hbc.size
  clear hbc s1
  go_wp2_with fail
  have V7 : Hid (SigVar (wc.alloc (.cells #[.slice B1 ps.length d1, .slice B2 rs.length d2] 32)) wc.heap.size (.slice B1 ps.length d1) (.slice B2 rs.length d2) ps rs) := SigVar.new (SigIs.of s1' s2)
  have HBD := hide (HBC.out.alloc HBC.out.size (.cells #[.slice B1 ps.length d1, .slice B2 rs.length d2] 32))
  generalize wc.alloc (.cells #[.slice B1 ps.length d1, .slice B2 rs.length d2] 32) = wd at *
  generalize wc.heap.size = b7 at *
  clear s1' s2
  refine (T1.out wd HBD.out).mono ?_; rintro e we ⟨B3, d3, rfl, s3, hbe⟩
  have HBE := hide (HBD.out.trans (hbe.mono HBD.out.size))
  have V7e := hide (V7.out.below hbe)
  clear hbe V7
  go_wp2_with fail
  refine (T3.out we HBE.out).mono ?_; rintro e wf ⟨B4, d4, rfl, s4, hbf⟩
  have HBF := hide (HBE.out.trans (hbf.mono HBE.out.size))
  have V7f := hide (V7e.out.below hbf)
  have s3' : Hid (Reads wf wf.heap.size 1 B3 ps.length (ps.map B)) := (s3.out.below hbf).more hbf.size
  clear hbf V7e s3
  go_wp2_with fail
  have V8 : Hid (SigVar (wf.alloc (.cells #[.slice B3 ps.length d3, .slice B4 qs.length d4] 32)) wf.heap.size (.slice B3 ps.length d3) (.slice B4 qs.length d4) ps qs) := SigVar.new (SigIs.of s3' s4)
  have HBG := hide (HBF.out.alloc HBF.out.size (.cells #[.slice B3 ps.length d3, .slice B4 qs.length d4] 32))
  have V7g := hide (V7f.out.below ((Below.refl _ _).alloc (Nat.le_refl _) (.cells #[.slice B3 ps.length d3, .slice B4 qs.length d4] 32)))
  generalize wf.alloc (.cells #[.slice B3 ps.length d3, .slice B4 qs.length d4] 32) = wg at *
  generalize wf.heap.size = b8 at *
  clear s3' s4 V7f
  refine (R1.out wg HBG.out).mono ?_; rintro e wg' ⟨rfl, rfl⟩
  cases q1 with
  | true =>
    obtain rfl : q2 = q := by have := HQ.out; simpa using this
    clear HQ
    cases q2 with
    | true =>
      have HPS := hide (HPST.out rfl)
      clear HPST HPSF
      --TAILTT
      go_wp2_with fail
      refine (R2.out wg HBG.out).mono ?_; rintro e wg' ⟨rfl, rfl⟩
      have e70 := V7g.out.at_.c0
      have e71 := V7g.out.at_.c1
      go_wp2_with fail
      refine (HPR.out wg _ V7g.out.is_).mono ?_; rintro e wh ⟨rfl, hbh⟩
      have HBH := hide (HBG.out.trans (hbh.mono HBG.out.size))
      have V7h := hide (V7g.out.below hbh)
      have V8h := hide (V8.out.below hbh)
      clear hbh V7g V8 e70 e71
      go_wp2_with fail
      refine (HPS.out wh HBH.out).mono ?_; rintro e wi ⟨hbi, hres⟩
      have HBI := hide (HBH.out.trans (hbi.mono HBH.out.size))
      have V7i := hide (V7h.out.below hbi)
      have V8i := hide (V8h.out.below hbi)
      clear hbi V7h V8h
      obtain ⟨v, rfl, hs⟩ := hres
      obtain ⟨E1, k1, E2, k2, rfl, y1, y2⟩ := hs.ex
      have HS := hide hs
      clear hs y1 y2
      have e70 := V7i.out.at_.c0
      have e71 := V7i.out.at_.c1
      go_wp2_with fail
      clear e70 e71
      have V10 : Hid (SigVar (wi.alloc (.cells #[.slice E1 ps.length k1, .slice E2 rs.length k2] 32)) wi.heap.size (.slice E1 ps.length k1) (.slice E2 rs.length k2) ps rs) := SigVar.new HS.out
      have hal : Below wi.heap.size wi (wi.alloc (.cells #[.slice E1 ps.length k1, .slice E2 rs.length k2] 32)) := (Below.refl _ _).alloc (Nat.le_refl _) _
      have HBJ := hide (HBI.out.trans (hal.mono HBI.out.size))
      have V7j := hide (V7i.out.below hal)
      have V8j := hide (V8i.out.below hal)
      clear hal V7i V8i
      generalize wi.alloc (.cells #[.slice E1 ps.length k1, .slice E2 rs.length k2] 32) = wj at *
      generalize wi.heap.size = b10 at *
      refine wp_region_factsR grew_ext (factsOf [fun yy _ => yy = .agg #[.slice B1 ps.length d1, .slice B2 rs.length d2],
        fun yy _ => yy = .bool true,
        fun yy _ => yy = .bool true,
        fun yy _ => yy = .bool false,
        fun yy _ => yy = .bool false,
        fun yy _ => yy = .agg #[.slice B1 ps.length d1, .slice B2 rs.length d2],
        fun yy _ => yy = .string ⟨(l1 ++ [45, 62] ++ l2 : List UInt8).toArray⟩,
        fun yy _ => yy = .slice A1 ps.length c1,
        fun yy _ => yy = .string ⟨l1.toArray⟩,
        fun yy _ => yy = .string ⟨(l1 ++ [45, 62] : List UInt8).toArray⟩,
        fun yy _ => yy = .slice A2 rs.length c2,
        fun yy _ => yy = .string ⟨l2.toArray⟩,
        fun yy _ => yy = .string ⟨(l1 ++ [45, 62] ++ l2 : List UInt8).toArray⟩,
        fun yy _ => yy = .bool false,
        fun yy _ => yy = .bool false,
        fun yy _ => yy = .bool false,
        fun yy _ => yy = .agg #[.slice B1 ps.length d1, .slice B2 rs.length d2],
        fun yy _ => yy = .agg #[.slice B3 ps.length d3, .slice B4 qs.length d4],
        fun yy _ => yy = .bool d,
        fun yy _ => yy = .slice A2 rs.length c2,
        fun yy _ => yy = .string ⟨rs.toArray⟩,
        fun yy _ => yy = .slice A3 qs.length c3,
        fun yy _ => yy = .string ⟨qs.toArray⟩,
        fun yy _ => yy = .bool d,
        fun yy _ => yy = .bool false,
        fun yy _ => yy = .bool false]) (by kernel_rfl) (by kernel_rfl) ?_ ?_
      · refine ⟨?_, ?_, ?_, ?_, ?_, ?_, ?_, ?_, ?_, ?_, ?_, ?_, ?_, ?_, ?_, ?_, ?_, ?_, ?_, ?_, ?_, ?_, ?_, ?_, ?_, ?_, trivial⟩
        · refine ⟨fun ρ W hk => ?_⟩
          have o7 : ρ (.tmp 7) = .pointer (some ⟨b7, 0, none⟩) := hk.old 7 (by decide)
          have hv := V7j.out.below hk.below
          exact OpOut.load (x := .tmp 7) rfl o7 (run_loadSig hv.at_.c0 hv.at_.c1) ⟨Below.refl _ _, rfl⟩
        · refine ⟨fun ρ W hk => ?_⟩
          have h0 := (hk.fact 0 52 (by decide) rfl).pure
          refine OpOut.fn (args := #[.agg #[.slice B1 ps.length d1, .slice B2 rs.length d2]]) rfl (hk.func _) (by simp [h0]) Tryd.func15 (by kernel_rfl) rfl ?_
          refine (HRI.out W _ (V7j.out.below hk.below).is_).mono ?_; rintro e w5 ⟨rfl, hb5⟩
          exact ⟨_, rfl, hb5, rfl⟩
        · refine ⟨fun ρ W hk => ?_⟩
          have o9 : ρ (.tmp 9) = .bool true := hk.old 9 (by decide)
          exact OpOut.move (.tmp 9) rfl ⟨Below.refl _ _, o9⟩
        · refine ⟨fun ρ W hk => ?_⟩
          have h1 := (hk.fact 1 53 (by decide) rfl).pure
          have h2 := (hk.fact 2 54 (by decide) rfl).pure
          exact OpOut.bin (x := .tmp 53) (y := .tmp 54) (v := .bool false) rfl (by rw [h1, h2]; go_simp) (by rw [h1, h2]; go_simp) ⟨Below.refl _ _, rfl⟩
        · refine ⟨fun ρ W hk => ?_⟩
          have h3 := (hk.fact 3 55 (by decide) rfl).pure
          exact OpOut.move (.tmp 55) rfl ⟨Below.refl _ _, h3⟩
        · refine ⟨fun ρ W hk => ?_⟩
          have o7 : ρ (.tmp 7) = .pointer (some ⟨b7, 0, none⟩) := hk.old 7 (by decide)
          have h4 := (hk.fact 4 56 (by decide) rfl).pure
          refine ⟨56, rfl, .inl ⟨false, h4, fun _ => ?_, fun h => absurd rfl h⟩⟩
          have hv := V7j.out.below hk.below
          exact OpOut.load (x := .tmp 7) rfl o7 (run_loadSig hv.at_.c0 hv.at_.c1) ⟨Below.refl _ _, rfl⟩
        · refine ⟨fun ρ W hk => ?_⟩
          have h5 := (hk.fact 5 57 (by decide) rfl).pure
          have h4 := (hk.fact 4 56 (by decide) rfl).pure
          refine ⟨56, rfl, .inl ⟨false, h4, fun _ => ?_, fun h => absurd rfl h⟩⟩
          refine OpOut.fn (args := #[.agg #[.slice B1 ps.length d1, .slice B2 rs.length d2]]) rfl (hk.func _) (by simp [h5]) Tryd.func14 (by kernel_rfl) rfl ?_
          refine (HPR2.out W _ (V7j.out.below hk.below).is_).mono ?_; rintro e w5 ⟨rfl, hb5⟩
          exact ⟨_, rfl, hb5, rfl⟩
        · refine ⟨fun ρ W hk => ?_⟩
          have o0 : ρ (.tmp 0) = .slice A1 ps.length c1 := hk.old 0 (by decide)
          have h4 := (hk.fact 4 56 (by decide) rfl).pure
          refine ⟨56, rfl, .inl ⟨false, h4, fun _ => ?_, fun h => absurd rfl h⟩⟩
          exact OpOut.move (.tmp 0) rfl ⟨Below.refl _ _, o0⟩
        · refine ⟨fun ρ W hk => ?_⟩
          have h7 := (hk.fact 7 59 (by decide) rfl).pure
          have h4 := (hk.fact 4 56 (by decide) rfl).pure
          refine ⟨56, rfl, .inl ⟨false, h4, fun _ => ?_, fun h => absurd rfl h⟩⟩
          refine OpOut.fn (args := #[.slice A1 ps.length c1]) rfl (hk.func _) (by simp [h7]) Tryd.func16 (by kernel_rfl) rfl ?_
          refine (L1.out W (HBJ.out.trans (hk.below.mono HBJ.out.size))).mono ?_; rintro e w5 ⟨rfl, rfl⟩
          exact ⟨_, rfl, Below.refl _ _, rfl⟩
        · refine ⟨fun ρ W hk => ?_⟩
          have h8 := (hk.fact 8 60 (by decide) rfl).pure
          have h4 := (hk.fact 4 56 (by decide) rfl).pure
          refine ⟨56, rfl, .inl ⟨false, h4, fun _ => ?_, fun h => absurd rfl h⟩⟩
          exact OpOut.bin (x := .tmp 60) (y := .const (.string ⟨#[45, 62]⟩)) (v := .string ⟨(l1 ++ [45, 62] : List UInt8).toArray⟩) rfl (by rw [h8, hk.const]; go_simp) (by rw [h8, hk.const]; exact run_cat l1 [45, 62] _ _ (by have := HL1.out; simp only [List.length_cons, List.length_nil]; omega)) ⟨Below.refl _ _, rfl⟩
        · refine ⟨fun ρ W hk => ?_⟩
          have o1 : ρ (.tmp 1) = .slice A2 rs.length c2 := hk.old 1 (by decide)
          have h4 := (hk.fact 4 56 (by decide) rfl).pure
          refine ⟨56, rfl, .inl ⟨false, h4, fun _ => ?_, fun h => absurd rfl h⟩⟩
          exact OpOut.move (.tmp 1) rfl ⟨Below.refl _ _, o1⟩
        · refine ⟨fun ρ W hk => ?_⟩
          have h10 := (hk.fact 10 62 (by decide) rfl).pure
          have h4 := (hk.fact 4 56 (by decide) rfl).pure
          refine ⟨56, rfl, .inl ⟨false, h4, fun _ => ?_, fun h => absurd rfl h⟩⟩
          refine OpOut.fn (args := #[.slice A2 rs.length c2]) rfl (hk.func _) (by simp [h10]) Tryd.func16 (by kernel_rfl) rfl ?_
          refine (L2.out W (HBJ.out.trans (hk.below.mono HBJ.out.size))).mono ?_; rintro e w5 ⟨rfl, rfl⟩
          exact ⟨_, rfl, Below.refl _ _, rfl⟩
        · refine ⟨fun ρ W hk => ?_⟩
          have h9 := (hk.fact 9 61 (by decide) rfl).pure
          have h11 := (hk.fact 11 63 (by decide) rfl).pure
          have h4 := (hk.fact 4 56 (by decide) rfl).pure
          refine ⟨56, rfl, .inl ⟨false, h4, fun _ => ?_, fun h => absurd rfl h⟩⟩
          exact OpOut.bin (x := .tmp 61) (y := .tmp 63) (v := .string ⟨(l1 ++ [45, 62] ++ l2 : List UInt8).toArray⟩) rfl (by rw [h9, h11]; go_simp) (by rw [h9, h11]; exact run_cat (l1 ++ [45, 62]) l2 _ _ (by have := HL1.out; have := HL2.out; simp only [List.length_append, List.length_cons, List.length_nil]; omega)) ⟨Below.refl _ _, rfl⟩
        · refine ⟨fun ρ W hk => ?_⟩
          have h6 := (hk.fact 6 58 (by decide) rfl).pure
          have h12 := (hk.fact 12 64 (by decide) rfl).pure
          have h4 := (hk.fact 4 56 (by decide) rfl).pure
          refine ⟨56, rfl, .inl ⟨false, h4, fun _ => ?_, fun h => absurd rfl h⟩⟩
          exact OpOut.bin (x := .tmp 58) (y := .tmp 64) (v := .bool false) rfl (by rw [h6, h12]; go_simp) (by rw [h6, h12]; exact run_neq_same _ _) ⟨Below.refl _ _, rfl⟩
        · refine ⟨fun ρ W hk => ?_⟩
          have h4 := (hk.fact 4 56 (by decide) rfl).pure
          have h13 := (hk.fact 13 65 (by decide) rfl).pure
          exact OpOut.pick (c := .tmp 56) (b := false) rfl h4 ⟨Below.refl _ _, h13⟩
        · refine ⟨fun ρ W hk => ?_⟩
          have h14 := (hk.fact 14 66 (by decide) rfl).pure
          exact OpOut.move (.tmp 66) rfl ⟨Below.refl _ _, h14⟩
        · refine ⟨fun ρ W hk => ?_⟩
          have o7 : ρ (.tmp 7) = .pointer (some ⟨b7, 0, none⟩) := hk.old 7 (by decide)
          have h15 := (hk.fact 15 67 (by decide) rfl).pure
          refine ⟨67, rfl, .inl ⟨false, h15, fun _ => ?_, fun h => absurd rfl h⟩⟩
          have hv := V7j.out.below hk.below
          exact OpOut.load (x := .tmp 7) rfl o7 (run_loadSig hv.at_.c0 hv.at_.c1) ⟨Below.refl _ _, rfl⟩
        · refine ⟨fun ρ W hk => ?_⟩
          have o8 : ρ (.tmp 8) = .pointer (some ⟨b8, 0, none⟩) := hk.old 8 (by decide)
          have h15 := (hk.fact 15 67 (by decide) rfl).pure
          refine ⟨67, rfl, .inl ⟨false, h15, fun _ => ?_, fun h => absurd rfl h⟩⟩
          have hv := V8j.out.below hk.below
          exact OpOut.load (x := .tmp 8) rfl o8 (run_loadSig hv.at_.c0 hv.at_.c1) ⟨Below.refl _ _, rfl⟩
        · refine ⟨fun ρ W hk => ?_⟩
          have h16 := (hk.fact 16 68 (by decide) rfl).pure
          have h17 := (hk.fact 17 69 (by decide) rfl).pure
          have h15 := (hk.fact 15 67 (by decide) rfl).pure
          refine ⟨67, rfl, .inl ⟨false, h15, fun _ => ?_, fun h => absurd rfl h⟩⟩
          refine OpOut.fn (args := #[.agg #[.slice B1 ps.length d1, .slice B2 rs.length d2], .agg #[.slice B3 ps.length d3, .slice B4 qs.length d4]]) rfl (hk.func _) (by simp [h16, h17]) Tryd.func17 (by kernel_rfl) rfl ?_
          refine (HSM.out W _ _ (V7j.out.below hk.below).is_ (V8j.out.below hk.below).is_).mono ?_; rintro e w5 ⟨rfl, hb5⟩
          exact ⟨_, rfl, hb5, rfl⟩
        · refine ⟨fun ρ W hk => ?_⟩
          have o1 : ρ (.tmp 1) = .slice A2 rs.length c2 := hk.old 1 (by decide)
          have h15 := (hk.fact 15 67 (by decide) rfl).pure
          refine ⟨67, rfl, .inl ⟨false, h15, fun _ => ?_, fun h => absurd rfl h⟩⟩
          exact OpOut.move (.tmp 1) rfl ⟨Below.refl _ _, o1⟩
        · refine ⟨fun ρ W hk => ?_⟩
          have h19 := (hk.fact 19 71 (by decide) rfl).pure
          have h15 := (hk.fact 15 67 (by decide) rfl).pure
          refine ⟨67, rfl, .inl ⟨false, h15, fun _ => ?_, fun h => absurd rfl h⟩⟩
          exact OpOut.conv (x := .tmp 71) rfl (by rw [h19]; exact str_reads c2 (RR2.out.below (HBJ.out.trans (hk.below.mono HBJ.out.size))) W (fun _ => rfl)) ⟨Below.refl _ _, rfl⟩
        · refine ⟨fun ρ W hk => ?_⟩
          have o2 : ρ (.tmp 2) = .slice A3 qs.length c3 := hk.old 2 (by decide)
          have h15 := (hk.fact 15 67 (by decide) rfl).pure
          refine ⟨67, rfl, .inl ⟨false, h15, fun _ => ?_, fun h => absurd rfl h⟩⟩
          exact OpOut.move (.tmp 2) rfl ⟨Below.refl _ _, o2⟩
        · refine ⟨fun ρ W hk => ?_⟩
          have h21 := (hk.fact 21 73 (by decide) rfl).pure
          have h15 := (hk.fact 15 67 (by decide) rfl).pure
          refine ⟨67, rfl, .inl ⟨false, h15, fun _ => ?_, fun h => absurd rfl h⟩⟩
          exact OpOut.conv (x := .tmp 73) rfl (by rw [h21]; exact str_reads c3 (RR3.out.below (HBJ.out.trans (hk.below.mono HBJ.out.size))) W (fun _ => rfl)) ⟨Below.refl _ _, rfl⟩
        · refine ⟨fun ρ W hk => ?_⟩
          have h20 := (hk.fact 20 72 (by decide) rfl).pure
          have h22 := (hk.fact 22 74 (by decide) rfl).pure
          have h15 := (hk.fact 15 67 (by decide) rfl).pure
          refine ⟨67, rfl, .inl ⟨false, h15, fun _ => ?_, fun h => absurd rfl h⟩⟩
          exact OpOut.bin (x := .tmp 72) (y := .tmp 74) (v := .bool d) rfl (by rw [h20, h22]; go_simp) (by rw [h20, h22]; exact run_eql_str' HD.out.symm W) ⟨Below.refl _ _, rfl⟩
        · refine ⟨fun ρ W hk => ?_⟩
          have h18 := (hk.fact 18 70 (by decide) rfl).pure
          have h23 := (hk.fact 23 75 (by decide) rfl).pure
          have h15 := (hk.fact 15 67 (by decide) rfl).pure
          refine ⟨67, rfl, .inl ⟨false, h15, fun _ => ?_, fun h => absurd rfl h⟩⟩
          exact OpOut.bin (x := .tmp 70) (y := .tmp 75) (v := .bool false) rfl (by rw [h18, h23]; go_simp) (by rw [h18, h23]; go_simp) ⟨Below.refl _ _, rfl⟩
        · refine ⟨fun ρ W hk => ?_⟩
          have h15 := (hk.fact 15 67 (by decide) rfl).pure
          have h24 := (hk.fact 24 76 (by decide) rfl).pure
          exact OpOut.pick (c := .tmp 67) (b := false) rfl h15 ⟨Below.refl _ _, h24⟩
      · intro vs W hb hf
        have h25 := (hf 25 (by decide)).pure
        clear hf
        simp only [fillL]
        go_frame
        rw [h25]
        have V10k := hide (V10.out.below hb)
        have V7k := hide (V7j.out.below hb)
        have e100 := V10k.out.at_.c0
        have e101 := V10k.out.at_.c1
        have e70 := V7k.out.at_.c0
        have e71 := V7k.out.at_.c1
        have HF := hide (HBJ.out.trans (hb.mono HBJ.out.size))
        clear hb
        go_wp2_with fail
        refine (HSS.out W _ _ V10k.out.is_ V7k.out.is_).mono ?_; rintro e wl ⟨rfl, hbl⟩
        have HG := hide (HF.out.trans (hbl.mono HF.out.size))
        clear hbl e70 e71 e100 e101
        go_wp2_with fail
        go_ret
        exact ⟨rfl, HG.out⟩
      --ENDTAILTT
    | false =>
      have HPS := hide (HPSF.out rfl)
      clear HPST HPSF
      --TAILTF
      go_wp2_with fail
      refine (R2.out wg HBG.out).mono ?_; rintro e wg' ⟨rfl, rfl⟩
      have e70 := V7g.out.at_.c0
      have e71 := V7g.out.at_.c1
      go_wp2_with fail
      refine (HPR.out wg _ V7g.out.is_).mono ?_; rintro e wh ⟨rfl, hbh⟩
      have HBH := hide (HBG.out.trans (hbh.mono HBG.out.size))
      have V7h := hide (V7g.out.below hbh)
      have V8h := hide (V8.out.below hbh)
      clear hbh V7g V8 e70 e71
      go_wp2_with fail
      refine (HPS.out wh HBH.out).mono ?_; rintro e wi ⟨hbi, hres⟩
      have HBI := hide (HBH.out.trans (hbi.mono HBH.out.size))
      have V7i := hide (V7h.out.below hbi)
      have V8i := hide (V8h.out.below hbi)
      clear hbi V7h V8h
      obtain ⟨v, rfl, hs⟩ := hres
      obtain ⟨E1, k1, E2, k2, rfl, y1, y2⟩ := hs.ex
      have HS := hide hs
      clear hs y1 y2
      have e70 := V7i.out.at_.c0
      have e71 := V7i.out.at_.c1
      go_wp2_with fail
      clear e70 e71
      have V10 : Hid (SigVar (wi.alloc (.cells #[.slice E1 0 k1, .slice E2 0 k2] 32)) wi.heap.size (.slice E1 0 k1) (.slice E2 0 k2) [] []) := SigVar.new HS.out
      have hal : Below wi.heap.size wi (wi.alloc (.cells #[.slice E1 0 k1, .slice E2 0 k2] 32)) := (Below.refl _ _).alloc (Nat.le_refl _) _
      have HBJ := hide (HBI.out.trans (hal.mono HBI.out.size))
      have V7j := hide (V7i.out.below hal)
      have V8j := hide (V8i.out.below hal)
      clear hal V7i V8i
      generalize wi.alloc (.cells #[.slice E1 0 k1, .slice E2 0 k2] 32) = wj at *
      generalize wi.heap.size = b10 at *
      refine wp_region_factsR grew_ext (factsOf [fun yy _ => yy = .agg #[.slice B1 ps.length d1, .slice B2 rs.length d2],
        fun yy _ => yy = .bool false,
        fun yy _ => yy = .bool false,
        fun yy _ => yy = .bool false,
        fun yy _ => yy = .bool false,
        fun yy _ => yy = .agg #[.slice B1 ps.length d1, .slice B2 rs.length d2],
        fun yy _ => yy = .string ⟨(l1 ++ [45, 62] ++ l2 : List UInt8).toArray⟩,
        fun yy _ => yy = .slice A1 ps.length c1,
        fun yy _ => yy = .string ⟨l1.toArray⟩,
        fun yy _ => yy = .string ⟨(l1 ++ [45, 62] : List UInt8).toArray⟩,
        fun yy _ => yy = .slice A2 rs.length c2,
        fun yy _ => yy = .string ⟨l2.toArray⟩,
        fun yy _ => yy = .string ⟨(l1 ++ [45, 62] ++ l2 : List UInt8).toArray⟩,
        fun yy _ => yy = .bool false,
        fun yy _ => yy = .bool false,
        fun yy _ => yy = .bool false,
        fun yy _ => yy = .agg #[.slice B1 ps.length d1, .slice B2 rs.length d2],
        fun yy _ => yy = .agg #[.slice B3 ps.length d3, .slice B4 qs.length d4],
        fun yy _ => yy = .bool d,
        fun yy _ => yy = .slice A2 rs.length c2,
        fun yy _ => yy = .string ⟨rs.toArray⟩,
        fun yy _ => yy = .slice A3 qs.length c3,
        fun yy _ => yy = .string ⟨qs.toArray⟩,
        fun yy _ => yy = .bool d,
        fun yy _ => yy = .bool false,
        fun yy _ => yy = .bool false]) (by kernel_rfl) (by kernel_rfl) ?_ ?_
      · refine ⟨?_, ?_, ?_, ?_, ?_, ?_, ?_, ?_, ?_, ?_, ?_, ?_, ?_, ?_, ?_, ?_, ?_, ?_, ?_, ?_, ?_, ?_, ?_, ?_, ?_, ?_, trivial⟩
        · refine ⟨fun ρ W hk => ?_⟩
          have o7 : ρ (.tmp 7) = .pointer (some ⟨b7, 0, none⟩) := hk.old 7 (by decide)
          have hv := V7j.out.below hk.below
          exact OpOut.load (x := .tmp 7) rfl o7 (run_loadSig hv.at_.c0 hv.at_.c1) ⟨Below.refl _ _, rfl⟩
        · refine ⟨fun ρ W hk => ?_⟩
          have h0 := (hk.fact 0 52 (by decide) rfl).pure
          refine OpOut.fn (args := #[.agg #[.slice B1 ps.length d1, .slice B2 rs.length d2]]) rfl (hk.func _) (by simp [h0]) Tryd.func15 (by kernel_rfl) rfl ?_
          refine (HRI.out W _ (V7j.out.below hk.below).is_).mono ?_; rintro e w5 ⟨rfl, hb5⟩
          exact ⟨_, rfl, hb5, rfl⟩
        · refine ⟨fun ρ W hk => ?_⟩
          have o9 : ρ (.tmp 9) = .bool false := hk.old 9 (by decide)
          exact OpOut.move (.tmp 9) rfl ⟨Below.refl _ _, o9⟩
        · refine ⟨fun ρ W hk => ?_⟩
          have h1 := (hk.fact 1 53 (by decide) rfl).pure
          have h2 := (hk.fact 2 54 (by decide) rfl).pure
          exact OpOut.bin (x := .tmp 53) (y := .tmp 54) (v := .bool false) rfl (by rw [h1, h2]; go_simp) (by rw [h1, h2]; go_simp) ⟨Below.refl _ _, rfl⟩
        · refine ⟨fun ρ W hk => ?_⟩
          have h3 := (hk.fact 3 55 (by decide) rfl).pure
          exact OpOut.move (.tmp 55) rfl ⟨Below.refl _ _, h3⟩
        · refine ⟨fun ρ W hk => ?_⟩
          have o7 : ρ (.tmp 7) = .pointer (some ⟨b7, 0, none⟩) := hk.old 7 (by decide)
          have h4 := (hk.fact 4 56 (by decide) rfl).pure
          refine ⟨56, rfl, .inl ⟨false, h4, fun _ => ?_, fun h => absurd rfl h⟩⟩
          have hv := V7j.out.below hk.below
          exact OpOut.load (x := .tmp 7) rfl o7 (run_loadSig hv.at_.c0 hv.at_.c1) ⟨Below.refl _ _, rfl⟩
        · refine ⟨fun ρ W hk => ?_⟩
          have h5 := (hk.fact 5 57 (by decide) rfl).pure
          have h4 := (hk.fact 4 56 (by decide) rfl).pure
          refine ⟨56, rfl, .inl ⟨false, h4, fun _ => ?_, fun h => absurd rfl h⟩⟩
          refine OpOut.fn (args := #[.agg #[.slice B1 ps.length d1, .slice B2 rs.length d2]]) rfl (hk.func _) (by simp [h5]) Tryd.func14 (by kernel_rfl) rfl ?_
          refine (HPR2.out W _ (V7j.out.below hk.below).is_).mono ?_; rintro e w5 ⟨rfl, hb5⟩
          exact ⟨_, rfl, hb5, rfl⟩
        · refine ⟨fun ρ W hk => ?_⟩
          have o0 : ρ (.tmp 0) = .slice A1 ps.length c1 := hk.old 0 (by decide)
          have h4 := (hk.fact 4 56 (by decide) rfl).pure
          refine ⟨56, rfl, .inl ⟨false, h4, fun _ => ?_, fun h => absurd rfl h⟩⟩
          exact OpOut.move (.tmp 0) rfl ⟨Below.refl _ _, o0⟩
        · refine ⟨fun ρ W hk => ?_⟩
          have h7 := (hk.fact 7 59 (by decide) rfl).pure
          have h4 := (hk.fact 4 56 (by decide) rfl).pure
          refine ⟨56, rfl, .inl ⟨false, h4, fun _ => ?_, fun h => absurd rfl h⟩⟩
          refine OpOut.fn (args := #[.slice A1 ps.length c1]) rfl (hk.func _) (by simp [h7]) Tryd.func16 (by kernel_rfl) rfl ?_
          refine (L1.out W (HBJ.out.trans (hk.below.mono HBJ.out.size))).mono ?_; rintro e w5 ⟨rfl, rfl⟩
          exact ⟨_, rfl, Below.refl _ _, rfl⟩
        · refine ⟨fun ρ W hk => ?_⟩
          have h8 := (hk.fact 8 60 (by decide) rfl).pure
          have h4 := (hk.fact 4 56 (by decide) rfl).pure
          refine ⟨56, rfl, .inl ⟨false, h4, fun _ => ?_, fun h => absurd rfl h⟩⟩
          exact OpOut.bin (x := .tmp 60) (y := .const (.string ⟨#[45, 62]⟩)) (v := .string ⟨(l1 ++ [45, 62] : List UInt8).toArray⟩) rfl (by rw [h8, hk.const]; go_simp) (by rw [h8, hk.const]; exact run_cat l1 [45, 62] _ _ (by have := HL1.out; simp only [List.length_cons, List.length_nil]; omega)) ⟨Below.refl _ _, rfl⟩
        · refine ⟨fun ρ W hk => ?_⟩
          have o1 : ρ (.tmp 1) = .slice A2 rs.length c2 := hk.old 1 (by decide)
          have h4 := (hk.fact 4 56 (by decide) rfl).pure
          refine ⟨56, rfl, .inl ⟨false, h4, fun _ => ?_, fun h => absurd rfl h⟩⟩
          exact OpOut.move (.tmp 1) rfl ⟨Below.refl _ _, o1⟩
        · refine ⟨fun ρ W hk => ?_⟩
          have h10 := (hk.fact 10 62 (by decide) rfl).pure
          have h4 := (hk.fact 4 56 (by decide) rfl).pure
          refine ⟨56, rfl, .inl ⟨false, h4, fun _ => ?_, fun h => absurd rfl h⟩⟩
          refine OpOut.fn (args := #[.slice A2 rs.length c2]) rfl (hk.func _) (by simp [h10]) Tryd.func16 (by kernel_rfl) rfl ?_
          refine (L2.out W (HBJ.out.trans (hk.below.mono HBJ.out.size))).mono ?_; rintro e w5 ⟨rfl, rfl⟩
          exact ⟨_, rfl, Below.refl _ _, rfl⟩
        · refine ⟨fun ρ W hk => ?_⟩
          have h9 := (hk.fact 9 61 (by decide) rfl).pure
          have h11 := (hk.fact 11 63 (by decide) rfl).pure
          have h4 := (hk.fact 4 56 (by decide) rfl).pure
          refine ⟨56, rfl, .inl ⟨false, h4, fun _ => ?_, fun h => absurd rfl h⟩⟩
          exact OpOut.bin (x := .tmp 61) (y := .tmp 63) (v := .string ⟨(l1 ++ [45, 62] ++ l2 : List UInt8).toArray⟩) rfl (by rw [h9, h11]; go_simp) (by rw [h9, h11]; exact run_cat (l1 ++ [45, 62]) l2 _ _ (by have := HL1.out; have := HL2.out; simp only [List.length_append, List.length_cons, List.length_nil]; omega)) ⟨Below.refl _ _, rfl⟩
        · refine ⟨fun ρ W hk => ?_⟩
          have h6 := (hk.fact 6 58 (by decide) rfl).pure
          have h12 := (hk.fact 12 64 (by decide) rfl).pure
          have h4 := (hk.fact 4 56 (by decide) rfl).pure
          refine ⟨56, rfl, .inl ⟨false, h4, fun _ => ?_, fun h => absurd rfl h⟩⟩
          exact OpOut.bin (x := .tmp 58) (y := .tmp 64) (v := .bool false) rfl (by rw [h6, h12]; go_simp) (by rw [h6, h12]; exact run_neq_same _ _) ⟨Below.refl _ _, rfl⟩
        · refine ⟨fun ρ W hk => ?_⟩
          have h4 := (hk.fact 4 56 (by decide) rfl).pure
          have h13 := (hk.fact 13 65 (by decide) rfl).pure
          exact OpOut.pick (c := .tmp 56) (b := false) rfl h4 ⟨Below.refl _ _, h13⟩
        · refine ⟨fun ρ W hk => ?_⟩
          have h14 := (hk.fact 14 66 (by decide) rfl).pure
          exact OpOut.move (.tmp 66) rfl ⟨Below.refl _ _, h14⟩
        · refine ⟨fun ρ W hk => ?_⟩
          have o7 : ρ (.tmp 7) = .pointer (some ⟨b7, 0, none⟩) := hk.old 7 (by decide)
          have h15 := (hk.fact 15 67 (by decide) rfl).pure
          refine ⟨67, rfl, .inl ⟨false, h15, fun _ => ?_, fun h => absurd rfl h⟩⟩
          have hv := V7j.out.below hk.below
          exact OpOut.load (x := .tmp 7) rfl o7 (run_loadSig hv.at_.c0 hv.at_.c1) ⟨Below.refl _ _, rfl⟩
        · refine ⟨fun ρ W hk => ?_⟩
          have o8 : ρ (.tmp 8) = .pointer (some ⟨b8, 0, none⟩) := hk.old 8 (by decide)
          have h15 := (hk.fact 15 67 (by decide) rfl).pure
          refine ⟨67, rfl, .inl ⟨false, h15, fun _ => ?_, fun h => absurd rfl h⟩⟩
          have hv := V8j.out.below hk.below
          exact OpOut.load (x := .tmp 8) rfl o8 (run_loadSig hv.at_.c0 hv.at_.c1) ⟨Below.refl _ _, rfl⟩
        · refine ⟨fun ρ W hk => ?_⟩
          have h16 := (hk.fact 16 68 (by decide) rfl).pure
          have h17 := (hk.fact 17 69 (by decide) rfl).pure
          have h15 := (hk.fact 15 67 (by decide) rfl).pure
          refine ⟨67, rfl, .inl ⟨false, h15, fun _ => ?_, fun h => absurd rfl h⟩⟩
          refine OpOut.fn (args := #[.agg #[.slice B1 ps.length d1, .slice B2 rs.length d2], .agg #[.slice B3 ps.length d3, .slice B4 qs.length d4]]) rfl (hk.func _) (by simp [h16, h17]) Tryd.func17 (by kernel_rfl) rfl ?_
          refine (HSM.out W _ _ (V7j.out.below hk.below).is_ (V8j.out.below hk.below).is_).mono ?_; rintro e w5 ⟨rfl, hb5⟩
          exact ⟨_, rfl, hb5, rfl⟩
        · refine ⟨fun ρ W hk => ?_⟩
          have o1 : ρ (.tmp 1) = .slice A2 rs.length c2 := hk.old 1 (by decide)
          have h15 := (hk.fact 15 67 (by decide) rfl).pure
          refine ⟨67, rfl, .inl ⟨false, h15, fun _ => ?_, fun h => absurd rfl h⟩⟩
          exact OpOut.move (.tmp 1) rfl ⟨Below.refl _ _, o1⟩
        · refine ⟨fun ρ W hk => ?_⟩
          have h19 := (hk.fact 19 71 (by decide) rfl).pure
          have h15 := (hk.fact 15 67 (by decide) rfl).pure
          refine ⟨67, rfl, .inl ⟨false, h15, fun _ => ?_, fun h => absurd rfl h⟩⟩
          exact OpOut.conv (x := .tmp 71) rfl (by rw [h19]; exact str_reads c2 (RR2.out.below (HBJ.out.trans (hk.below.mono HBJ.out.size))) W (fun _ => rfl)) ⟨Below.refl _ _, rfl⟩
        · refine ⟨fun ρ W hk => ?_⟩
          have o2 : ρ (.tmp 2) = .slice A3 qs.length c3 := hk.old 2 (by decide)
          have h15 := (hk.fact 15 67 (by decide) rfl).pure
          refine ⟨67, rfl, .inl ⟨false, h15, fun _ => ?_, fun h => absurd rfl h⟩⟩
          exact OpOut.move (.tmp 2) rfl ⟨Below.refl _ _, o2⟩
        · refine ⟨fun ρ W hk => ?_⟩
          have h21 := (hk.fact 21 73 (by decide) rfl).pure
          have h15 := (hk.fact 15 67 (by decide) rfl).pure
          refine ⟨67, rfl, .inl ⟨false, h15, fun _ => ?_, fun h => absurd rfl h⟩⟩
          exact OpOut.conv (x := .tmp 73) rfl (by rw [h21]; exact str_reads c3 (RR3.out.below (HBJ.out.trans (hk.below.mono HBJ.out.size))) W (fun _ => rfl)) ⟨Below.refl _ _, rfl⟩
        · refine ⟨fun ρ W hk => ?_⟩
          have h20 := (hk.fact 20 72 (by decide) rfl).pure
          have h22 := (hk.fact 22 74 (by decide) rfl).pure
          have h15 := (hk.fact 15 67 (by decide) rfl).pure
          refine ⟨67, rfl, .inl ⟨false, h15, fun _ => ?_, fun h => absurd rfl h⟩⟩
          exact OpOut.bin (x := .tmp 72) (y := .tmp 74) (v := .bool d) rfl (by rw [h20, h22]; go_simp) (by rw [h20, h22]; exact run_eql_str' HD.out.symm W) ⟨Below.refl _ _, rfl⟩
        · refine ⟨fun ρ W hk => ?_⟩
          have h18 := (hk.fact 18 70 (by decide) rfl).pure
          have h23 := (hk.fact 23 75 (by decide) rfl).pure
          have h15 := (hk.fact 15 67 (by decide) rfl).pure
          refine ⟨67, rfl, .inl ⟨false, h15, fun _ => ?_, fun h => absurd rfl h⟩⟩
          exact OpOut.bin (x := .tmp 70) (y := .tmp 75) (v := .bool false) rfl (by rw [h18, h23]; go_simp) (by rw [h18, h23]; go_simp) ⟨Below.refl _ _, rfl⟩
        · refine ⟨fun ρ W hk => ?_⟩
          have h15 := (hk.fact 15 67 (by decide) rfl).pure
          have h24 := (hk.fact 24 76 (by decide) rfl).pure
          exact OpOut.pick (c := .tmp 67) (b := false) rfl h15 ⟨Below.refl _ _, h24⟩
      · intro vs W hb hf
        have h25 := (hf 25 (by decide)).pure
        clear hf
        simp only [fillL]
        go_frame
        rw [h25]
        have V10k := V10.out.below hb
        have e100 := V10k.at_.c0
        have e101 := V10k.at_.c1
        have HF := hide (HBJ.out.trans (hb.mono HBJ.out.size))
        clear hb V10k
        go_wp2_with fail
        go_ret
        exact ⟨rfl, HF.out⟩
      --ENDTAILTF
  | false =>
    obtain rfl : q = false := by have := HQ.out; simpa using this.symm
    have HPS := hide (HPSF.out rfl)
    clear HPST HPSF HQ
    --TAILFF
    have e70 := V7g.out.at_.c0
    have e71 := V7g.out.at_.c1
    go_wp2_with fail
    refine (HPR.out wg _ V7g.out.is_).mono ?_; rintro e wh ⟨rfl, hbh⟩
    have HBH := hide (HBG.out.trans (hbh.mono HBG.out.size))
    have V7h := hide (V7g.out.below hbh)
    have V8h := hide (V8.out.below hbh)
    clear hbh V7g V8 e70 e71
    go_wp2_with fail
    refine (HPS.out wh HBH.out).mono ?_; rintro e wi ⟨hbi, hres⟩
    have HBI := hide (HBH.out.trans (hbi.mono HBH.out.size))
    have V7i := hide (V7h.out.below hbi)
    have V8i := hide (V8h.out.below hbi)
    clear hbi V7h V8h
    obtain ⟨v, rfl, hs⟩ := hres
    obtain ⟨E1, k1, E2, k2, rfl, y1, y2⟩ := hs.ex
    have HS := hide hs
    clear hs y1 y2
    have e70 := V7i.out.at_.c0
    have e71 := V7i.out.at_.c1
    go_wp2_with fail
    clear e70 e71
    have V10 : Hid (SigVar (wi.alloc (.cells #[.slice E1 0 k1, .slice E2 0 k2] 32)) wi.heap.size (.slice E1 0 k1) (.slice E2 0 k2) [] []) := SigVar.new HS.out
    have hal : Below wi.heap.size wi (wi.alloc (.cells #[.slice E1 0 k1, .slice E2 0 k2] 32)) := (Below.refl _ _).alloc (Nat.le_refl _) _
    have HBJ := hide (HBI.out.trans (hal.mono HBI.out.size))
    have V7j := hide (V7i.out.below hal)
    have V8j := hide (V8i.out.below hal)
    clear hal V7i V8i
    generalize wi.alloc (.cells #[.slice E1 0 k1, .slice E2 0 k2] 32) = wj at *
    generalize wi.heap.size = b10 at *
    refine wp_region_factsR grew_ext (factsOf [fun yy _ => yy = .agg #[.slice B1 ps.length d1, .slice B2 rs.length d2],
      fun yy _ => yy = .bool false,
      fun yy _ => yy = .bool false,
      fun yy _ => yy = .bool false,
      fun yy _ => yy = .bool false,
      fun yy _ => yy = .agg #[.slice B1 ps.length d1, .slice B2 rs.length d2],
      fun yy _ => yy = .string ⟨(l1 ++ [45, 62] ++ l2 : List UInt8).toArray⟩,
      fun yy _ => yy = .slice A1 ps.length c1,
      fun yy _ => yy = .string ⟨l1.toArray⟩,
      fun yy _ => yy = .string ⟨(l1 ++ [45, 62] : List UInt8).toArray⟩,
      fun yy _ => yy = .slice A2 rs.length c2,
      fun yy _ => yy = .string ⟨l2.toArray⟩,
      fun yy _ => yy = .string ⟨(l1 ++ [45, 62] ++ l2 : List UInt8).toArray⟩,
      fun yy _ => yy = .bool false,
      fun yy _ => yy = .bool false,
      fun yy _ => yy = .bool false,
      fun yy _ => yy = .agg #[.slice B1 ps.length d1, .slice B2 rs.length d2],
      fun yy _ => yy = .agg #[.slice B3 ps.length d3, .slice B4 qs.length d4],
      fun yy _ => yy = .bool d,
      fun yy _ => yy = .slice A2 rs.length c2,
      fun yy _ => yy = .string ⟨rs.toArray⟩,
      fun yy _ => yy = .slice A3 qs.length c3,
      fun yy _ => yy = .string ⟨qs.toArray⟩,
      fun yy _ => yy = .bool d,
      fun yy _ => yy = .bool false,
      fun yy _ => yy = .bool false]) (by kernel_rfl) (by kernel_rfl) ?_ ?_
    · refine ⟨?_, ?_, ?_, ?_, ?_, ?_, ?_, ?_, ?_, ?_, ?_, ?_, ?_, ?_, ?_, ?_, ?_, ?_, ?_, ?_, ?_, ?_, ?_, ?_, ?_, ?_, trivial⟩
      · refine ⟨fun ρ W hk => ?_⟩
        have o7 : ρ (.tmp 7) = .pointer (some ⟨b7, 0, none⟩) := hk.old 7 (by decide)
        have hv := V7j.out.below hk.below
        exact OpOut.load (x := .tmp 7) rfl o7 (run_loadSig hv.at_.c0 hv.at_.c1) ⟨Below.refl _ _, rfl⟩
      · refine ⟨fun ρ W hk => ?_⟩
        have h0 := (hk.fact 0 52 (by decide) rfl).pure
        refine OpOut.fn (args := #[.agg #[.slice B1 ps.length d1, .slice B2 rs.length d2]]) rfl (hk.func _) (by simp [h0]) Tryd.func15 (by kernel_rfl) rfl ?_
        refine (HRI.out W _ (V7j.out.below hk.below).is_).mono ?_; rintro e w5 ⟨rfl, hb5⟩
        exact ⟨_, rfl, hb5, rfl⟩
      · refine ⟨fun ρ W hk => ?_⟩
        have o9 : ρ (.tmp 9) = .bool false := hk.old 9 (by decide)
        exact OpOut.move (.tmp 9) rfl ⟨Below.refl _ _, o9⟩
      · refine ⟨fun ρ W hk => ?_⟩
        have h1 := (hk.fact 1 53 (by decide) rfl).pure
        have h2 := (hk.fact 2 54 (by decide) rfl).pure
        exact OpOut.bin (x := .tmp 53) (y := .tmp 54) (v := .bool false) rfl (by rw [h1, h2]; go_simp) (by rw [h1, h2]; go_simp) ⟨Below.refl _ _, rfl⟩
      · refine ⟨fun ρ W hk => ?_⟩
        have h3 := (hk.fact 3 55 (by decide) rfl).pure
        exact OpOut.move (.tmp 55) rfl ⟨Below.refl _ _, h3⟩
      · refine ⟨fun ρ W hk => ?_⟩
        have o7 : ρ (.tmp 7) = .pointer (some ⟨b7, 0, none⟩) := hk.old 7 (by decide)
        have h4 := (hk.fact 4 56 (by decide) rfl).pure
        refine ⟨56, rfl, .inl ⟨false, h4, fun _ => ?_, fun h => absurd rfl h⟩⟩
        have hv := V7j.out.below hk.below
        exact OpOut.load (x := .tmp 7) rfl o7 (run_loadSig hv.at_.c0 hv.at_.c1) ⟨Below.refl _ _, rfl⟩
      · refine ⟨fun ρ W hk => ?_⟩
        have h5 := (hk.fact 5 57 (by decide) rfl).pure
        have h4 := (hk.fact 4 56 (by decide) rfl).pure
        refine ⟨56, rfl, .inl ⟨false, h4, fun _ => ?_, fun h => absurd rfl h⟩⟩
        refine OpOut.fn (args := #[.agg #[.slice B1 ps.length d1, .slice B2 rs.length d2]]) rfl (hk.func _) (by simp [h5]) Tryd.func14 (by kernel_rfl) rfl ?_
        refine (HPR2.out W _ (V7j.out.below hk.below).is_).mono ?_; rintro e w5 ⟨rfl, hb5⟩
        exact ⟨_, rfl, hb5, rfl⟩
      · refine ⟨fun ρ W hk => ?_⟩
        have o0 : ρ (.tmp 0) = .slice A1 ps.length c1 := hk.old 0 (by decide)
        have h4 := (hk.fact 4 56 (by decide) rfl).pure
        refine ⟨56, rfl, .inl ⟨false, h4, fun _ => ?_, fun h => absurd rfl h⟩⟩
        exact OpOut.move (.tmp 0) rfl ⟨Below.refl _ _, o0⟩
      · refine ⟨fun ρ W hk => ?_⟩
        have h7 := (hk.fact 7 59 (by decide) rfl).pure
        have h4 := (hk.fact 4 56 (by decide) rfl).pure
        refine ⟨56, rfl, .inl ⟨false, h4, fun _ => ?_, fun h => absurd rfl h⟩⟩
        refine OpOut.fn (args := #[.slice A1 ps.length c1]) rfl (hk.func _) (by simp [h7]) Tryd.func16 (by kernel_rfl) rfl ?_
        refine (L1.out W (HBJ.out.trans (hk.below.mono HBJ.out.size))).mono ?_; rintro e w5 ⟨rfl, rfl⟩
        exact ⟨_, rfl, Below.refl _ _, rfl⟩
      · refine ⟨fun ρ W hk => ?_⟩
        have h8 := (hk.fact 8 60 (by decide) rfl).pure
        have h4 := (hk.fact 4 56 (by decide) rfl).pure
        refine ⟨56, rfl, .inl ⟨false, h4, fun _ => ?_, fun h => absurd rfl h⟩⟩
        exact OpOut.bin (x := .tmp 60) (y := .const (.string ⟨#[45, 62]⟩)) (v := .string ⟨(l1 ++ [45, 62] : List UInt8).toArray⟩) rfl (by rw [h8, hk.const]; go_simp) (by rw [h8, hk.const]; exact run_cat l1 [45, 62] _ _ (by have := HL1.out; simp only [List.length_cons, List.length_nil]; omega)) ⟨Below.refl _ _, rfl⟩
      · refine ⟨fun ρ W hk => ?_⟩
        have o1 : ρ (.tmp 1) = .slice A2 rs.length c2 := hk.old 1 (by decide)
        have h4 := (hk.fact 4 56 (by decide) rfl).pure
        refine ⟨56, rfl, .inl ⟨false, h4, fun _ => ?_, fun h => absurd rfl h⟩⟩
        exact OpOut.move (.tmp 1) rfl ⟨Below.refl _ _, o1⟩
      · refine ⟨fun ρ W hk => ?_⟩
        have h10 := (hk.fact 10 62 (by decide) rfl).pure
        have h4 := (hk.fact 4 56 (by decide) rfl).pure
        refine ⟨56, rfl, .inl ⟨false, h4, fun _ => ?_, fun h => absurd rfl h⟩⟩
        refine OpOut.fn (args := #[.slice A2 rs.length c2]) rfl (hk.func _) (by simp [h10]) Tryd.func16 (by kernel_rfl) rfl ?_
        refine (L2.out W (HBJ.out.trans (hk.below.mono HBJ.out.size))).mono ?_; rintro e w5 ⟨rfl, rfl⟩
        exact ⟨_, rfl, Below.refl _ _, rfl⟩
      · refine ⟨fun ρ W hk => ?_⟩
        have h9 := (hk.fact 9 61 (by decide) rfl).pure
        have h11 := (hk.fact 11 63 (by decide) rfl).pure
        have h4 := (hk.fact 4 56 (by decide) rfl).pure
        refine ⟨56, rfl, .inl ⟨false, h4, fun _ => ?_, fun h => absurd rfl h⟩⟩
        exact OpOut.bin (x := .tmp 61) (y := .tmp 63) (v := .string ⟨(l1 ++ [45, 62] ++ l2 : List UInt8).toArray⟩) rfl (by rw [h9, h11]; go_simp) (by rw [h9, h11]; exact run_cat (l1 ++ [45, 62]) l2 _ _ (by have := HL1.out; have := HL2.out; simp only [List.length_append, List.length_cons, List.length_nil]; omega)) ⟨Below.refl _ _, rfl⟩
      · refine ⟨fun ρ W hk => ?_⟩
        have h6 := (hk.fact 6 58 (by decide) rfl).pure
        have h12 := (hk.fact 12 64 (by decide) rfl).pure
        have h4 := (hk.fact 4 56 (by decide) rfl).pure
        refine ⟨56, rfl, .inl ⟨false, h4, fun _ => ?_, fun h => absurd rfl h⟩⟩
        exact OpOut.bin (x := .tmp 58) (y := .tmp 64) (v := .bool false) rfl (by rw [h6, h12]; go_simp) (by rw [h6, h12]; exact run_neq_same _ _) ⟨Below.refl _ _, rfl⟩
      · refine ⟨fun ρ W hk => ?_⟩
        have h4 := (hk.fact 4 56 (by decide) rfl).pure
        have h13 := (hk.fact 13 65 (by decide) rfl).pure
        exact OpOut.pick (c := .tmp 56) (b := false) rfl h4 ⟨Below.refl _ _, h13⟩
      · refine ⟨fun ρ W hk => ?_⟩
        have h14 := (hk.fact 14 66 (by decide) rfl).pure
        exact OpOut.move (.tmp 66) rfl ⟨Below.refl _ _, h14⟩
      · refine ⟨fun ρ W hk => ?_⟩
        have o7 : ρ (.tmp 7) = .pointer (some ⟨b7, 0, none⟩) := hk.old 7 (by decide)
        have h15 := (hk.fact 15 67 (by decide) rfl).pure
        refine ⟨67, rfl, .inl ⟨false, h15, fun _ => ?_, fun h => absurd rfl h⟩⟩
        have hv := V7j.out.below hk.below
        exact OpOut.load (x := .tmp 7) rfl o7 (run_loadSig hv.at_.c0 hv.at_.c1) ⟨Below.refl _ _, rfl⟩
      · refine ⟨fun ρ W hk => ?_⟩
        have o8 : ρ (.tmp 8) = .pointer (some ⟨b8, 0, none⟩) := hk.old 8 (by decide)
        have h15 := (hk.fact 15 67 (by decide) rfl).pure
        refine ⟨67, rfl, .inl ⟨false, h15, fun _ => ?_, fun h => absurd rfl h⟩⟩
        have hv := V8j.out.below hk.below
        exact OpOut.load (x := .tmp 8) rfl o8 (run_loadSig hv.at_.c0 hv.at_.c1) ⟨Below.refl _ _, rfl⟩
      · refine ⟨fun ρ W hk => ?_⟩
        have h16 := (hk.fact 16 68 (by decide) rfl).pure
        have h17 := (hk.fact 17 69 (by decide) rfl).pure
        have h15 := (hk.fact 15 67 (by decide) rfl).pure
        refine ⟨67, rfl, .inl ⟨false, h15, fun _ => ?_, fun h => absurd rfl h⟩⟩
        refine OpOut.fn (args := #[.agg #[.slice B1 ps.length d1, .slice B2 rs.length d2], .agg #[.slice B3 ps.length d3, .slice B4 qs.length d4]]) rfl (hk.func _) (by simp [h16, h17]) Tryd.func17 (by kernel_rfl) rfl ?_
        refine (HSM.out W _ _ (V7j.out.below hk.below).is_ (V8j.out.below hk.below).is_).mono ?_; rintro e w5 ⟨rfl, hb5⟩
        exact ⟨_, rfl, hb5, rfl⟩
      · refine ⟨fun ρ W hk => ?_⟩
        have o1 : ρ (.tmp 1) = .slice A2 rs.length c2 := hk.old 1 (by decide)
        have h15 := (hk.fact 15 67 (by decide) rfl).pure
        refine ⟨67, rfl, .inl ⟨false, h15, fun _ => ?_, fun h => absurd rfl h⟩⟩
        exact OpOut.move (.tmp 1) rfl ⟨Below.refl _ _, o1⟩
      · refine ⟨fun ρ W hk => ?_⟩
        have h19 := (hk.fact 19 71 (by decide) rfl).pure
        have h15 := (hk.fact 15 67 (by decide) rfl).pure
        refine ⟨67, rfl, .inl ⟨false, h15, fun _ => ?_, fun h => absurd rfl h⟩⟩
        exact OpOut.conv (x := .tmp 71) rfl (by rw [h19]; exact str_reads c2 (RR2.out.below (HBJ.out.trans (hk.below.mono HBJ.out.size))) W (fun _ => rfl)) ⟨Below.refl _ _, rfl⟩
      · refine ⟨fun ρ W hk => ?_⟩
        have o2 : ρ (.tmp 2) = .slice A3 qs.length c3 := hk.old 2 (by decide)
        have h15 := (hk.fact 15 67 (by decide) rfl).pure
        refine ⟨67, rfl, .inl ⟨false, h15, fun _ => ?_, fun h => absurd rfl h⟩⟩
        exact OpOut.move (.tmp 2) rfl ⟨Below.refl _ _, o2⟩
      · refine ⟨fun ρ W hk => ?_⟩
        have h21 := (hk.fact 21 73 (by decide) rfl).pure
        have h15 := (hk.fact 15 67 (by decide) rfl).pure
        refine ⟨67, rfl, .inl ⟨false, h15, fun _ => ?_, fun h => absurd rfl h⟩⟩
        exact OpOut.conv (x := .tmp 73) rfl (by rw [h21]; exact str_reads c3 (RR3.out.below (HBJ.out.trans (hk.below.mono HBJ.out.size))) W (fun _ => rfl)) ⟨Below.refl _ _, rfl⟩
      · refine ⟨fun ρ W hk => ?_⟩
        have h20 := (hk.fact 20 72 (by decide) rfl).pure
        have h22 := (hk.fact 22 74 (by decide) rfl).pure
        have h15 := (hk.fact 15 67 (by decide) rfl).pure
        refine ⟨67, rfl, .inl ⟨false, h15, fun _ => ?_, fun h => absurd rfl h⟩⟩
        exact OpOut.bin (x := .tmp 72) (y := .tmp 74) (v := .bool d) rfl (by rw [h20, h22]; go_simp) (by rw [h20, h22]; exact run_eql_str' HD.out.symm W) ⟨Below.refl _ _, rfl⟩
      · refine ⟨fun ρ W hk => ?_⟩
        have h18 := (hk.fact 18 70 (by decide) rfl).pure
        have h23 := (hk.fact 23 75 (by decide) rfl).pure
        have h15 := (hk.fact 15 67 (by decide) rfl).pure
        refine ⟨67, rfl, .inl ⟨false, h15, fun _ => ?_, fun h => absurd rfl h⟩⟩
        exact OpOut.bin (x := .tmp 70) (y := .tmp 75) (v := .bool false) rfl (by rw [h18, h23]; go_simp) (by rw [h18, h23]; go_simp) ⟨Below.refl _ _, rfl⟩
      · refine ⟨fun ρ W hk => ?_⟩
        have h15 := (hk.fact 15 67 (by decide) rfl).pure
        have h24 := (hk.fact 24 76 (by decide) rfl).pure
        exact OpOut.pick (c := .tmp 67) (b := false) rfl h15 ⟨Below.refl _ _, h24⟩
    · intro vs W hb hf
      have h25 := (hf 25 (by decide)).pure
      clear hf
      simp only [fillL]
      go_frame
      rw [h25]
      have V10k := V10.out.below hb
      have e100 := V10k.at_.c0
      have e101 := V10k.at_.c1
      have HF := hide (HBJ.out.trans (hb.mono HBJ.out.size))
      clear hb V10k
      go_wp2_with fail
      go_ret
      exact ⟨rfl, HF.out⟩
    --ENDTAILFF
set_option maxHeartbeats 800000 in
/-- TypesPrint's walk for the row -/
theorem TypesPrint_walk (A1 : Option Addr) (c1 : Nat) (ps : List UInt8) (A2 : Option Addr) (c2 : Nat) (rs : List UInt8) (A3 : Option Addr) (c3 : Nat) (qs : List UInt8) (w : World)
    (r1 : Reads w w.heap.size 1 A1 ps.length (ps.map B)) (k1 : ps.length ≤ c1) (m1 : c1 ≤ maxLen) (r2 : Reads w w.heap.size 1 A2 rs.length (rs.map B)) (k2 : rs.length ≤ c2) (m2 : c2 ≤ maxLen) (r3 : Reads w w.heap.size 1 A3 qs.length (qs.map B)) (k3 : qs.length ≤ c3) (m3 : c3 ≤ maxLen) (ht : LaidT w) :
    Calls Tryd.prog 4 #[.slice A1 ps.length c1, .slice A2 rs.length c2, .slice A3 qs.length c3] w fun e w' => e = .returned (.bool true) ∧ Below w.heap.size w w' := by
  by_cases h1 : ps.length ≤ 30
  · by_cases h2 : rs.length ≤ 30
    · by_cases h3 : qs.length ≤ 30
      · exact tprint_any A1 c1 ps A2 c2 rs A3 c3 qs w r1 r2 r3 h1 h2 h3 ht
      · have HA := hide (awakeT w ht)
        clear r1 r2 r3 ht
        unfold maxLen at m1 m2 m3
        go_enter Tryd.func4, Tryd.ntmps4
        go_wp2_with fail
        refine HA.out.mono ?_; rintro e wa ⟨rfl, hba⟩
        have HBA := hide hba
        clear hba
        go_wp2_with fail
        go_ret
        exact ⟨rfl, HBA.out⟩
    · have HA := hide (awakeT w ht)
      clear r1 r2 r3 ht
      unfold maxLen at m1 m2 m3
      go_enter Tryd.func4, Tryd.ntmps4
      go_wp2_with fail
      refine HA.out.mono ?_; rintro e wa ⟨rfl, hba⟩
      have HBA := hide hba
      clear hba
      go_wp2_with fail
      go_ret
      exact ⟨rfl, HBA.out⟩
  · have HA := hide (awakeT w ht)
    clear r1 r2 r3 ht
    unfold maxLen at m1 m2 m3
    go_enter Tryd.func4, Tryd.ntmps4
    go_wp2_with fail
    refine HA.out.mono ?_; rintro e wa ⟨rfl, hba⟩
    have HBA := hide hba
    clear hba
    go_wp2_with fail
    go_ret
    exact ⟨rfl, HBA.out⟩
end Go.Proofs.YtgohojbgcjiebaaDoor
