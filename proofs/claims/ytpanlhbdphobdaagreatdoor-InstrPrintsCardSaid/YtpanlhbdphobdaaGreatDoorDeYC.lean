/-
  Law 11: InstrPrints: the walk. (Written by wip/gen-insw.py.)
  InstrPrints: for every input.
-/
import Derived.Test.YtpanlhbdphobdaaGreatDoorDeYB
namespace Go.Proofs.YtpanlhbdphobdaaGreatDoor
open Go.RowKit
set_option linter.unusedVariables false

theorem right_len {x : XI} (h : rightX x = true) : x.l.length ≤ 100 := by
  obtain ⟨r, hr, hc, hf⟩ := right_some h
  unfold rightF at hf
  repeat' (split at hf)
  all_goals first | (simp at hf; omega) | (simp at hf; rw [hf.2.2.2]; simp) | (cases hf)
theorem parsed_len {s : List UInt8} {y : XI} {er : Nat} (h : ParsedR s y er) : y.l.length ≤ 100 := by
  rcases h.or_ with ⟨_, h2, _, _⟩ | ⟨_, h2, _⟩
  · exact right_len h2
  · rw [h2]; simp [zeroX]

theorem prints_many (x : XI) (A : Option Addr) (c : Nat) (s : List UInt8) (w : World) (ht : Hid (LaidI w)) (b1 : x.l.length ≤ 9223372036854775807) (b2 : s.length ≤ 9223372036854775807) (h : 120 < x.l.length ∨ (x.l.length ≤ 120 ∧ 200 < s.length)) :
    Calls Tryz.prog 3 #[.agg #[.int .i64 x.code, .int .u64 (x.a : Int), .int .u64 (x.b : Int), .int .i64 x.al, .slice A x.l.length c], .string ⟨s.toArray⟩] w fun e w' => e = .returned (.bool true) ∧ Hid (Below w.heap.size w w') := by
  obtain ⟨W, hW⟩ : ∃ W, w.alloc (.cells #[.int .i64 x.code, .int .u64 (x.a : Int), .int .u64 (x.b : Int), .int .i64 x.al, .slice A x.l.length c] 25) = W := ⟨_, rfl⟩
  obtain ⟨g, hg⟩ : ∃ g, w.heap.size = g := ⟨_, rfl⟩
  have hbW : Below g w W := by rw [← hW, ← hg]; exact (Below.refl _ _).alloc (Nat.le_refl _) _
  have hx : RXV W g x A c := by rw [← hW, ← hg]; exact rxv_new w x A c
  have hsz : W.heap.size = g + 1 := by rw [← hW, ← hg]; simp
  obtain ⟨l0, l1, l2, l3, l4⟩ := hx.cs
  have HT : Hid (LaidI W) := by have := ht.out.below (w' := W) (by rw [hg]; exact hbW); exact this
  have HA := hide (awake11 W HT)
  have HW := hide hW; have HB := hide hbW; have HG := hide hg; have HX := hide hx
  have HGW : Hid (g < W.heap.size) := by show g < _; omega
  have FIN : ∀ V, Below W.heap.size W V → Below w.heap.size w V := fun V h => by rw [HG.out]; exact HB.out.trans (h.mono (by have := HGW.out; omega))
  have HFIN := hide FIN
  clear FIN hW hbW hg hx ht hsz
  rcases h with h | ⟨h1, h⟩
  · go_enter Tryz.func3, Tryz.ntmps3
    go_upto_region 1 with fail
    rw [HW.out, HG.out]
    go_wp2_with fail
    refine HA.out.mono ?_; rintro e w1 ⟨rfl, h1⟩
    clear l0 l1 l2 l3 l4
    go_wp2_with fail
    go_ret
    exact ⟨rfl, HFIN.out _ h1.out⟩
  · go_enter Tryz.func3, Tryz.ntmps3
    go_upto_region 1 with fail
    rw [HW.out, HG.out]
    go_wp2_with fail
    refine HA.out.mono ?_; rintro e w1 ⟨rfl, h1⟩
    clear l0 l1 l2 l3 l4
    go_wp2_with fail
    go_ret
    exact ⟨rfl, HFIN.out _ h1.out⟩

set_option maxRecDepth 100000 in
set_option maxHeartbeats 6400000 in
theorem prints_few (x : XI) (A : Option Addr) (c : Nat) (s : List UInt8) (w : World) (ht : Hid (LaidI w)) (hix : Hid x.In) (r1 : Hid (Reads w w.heap.size 1 A x.l.length (x.l.map U))) (b1 : x.l.length ≤ 120) (b2 : s.length ≤ 200) :
    Calls Tryz.prog 3 #[.agg #[.int .i64 x.code, .int .u64 (x.a : Int), .int .u64 (x.b : Int), .int .i64 x.al, .slice A x.l.length c], .string ⟨s.toArray⟩] w fun e w' => e = .returned (.bool true) ∧ Hid (Below w.heap.size w w') := by
  obtain ⟨W, hW⟩ : ∃ W, w.alloc (.cells #[.int .i64 x.code, .int .u64 (x.a : Int), .int .u64 (x.b : Int), .int .i64 x.al, .slice A x.l.length c] 25) = W := ⟨_, rfl⟩
  obtain ⟨g, hg⟩ : ∃ g, w.heap.size = g := ⟨_, rfl⟩
  have hbW : Below g w W := by rw [← hW, ← hg]; exact (Below.refl _ _).alloc (Nat.le_refl _) _
  have hx : RXV W g x A c := by rw [← hW, ← hg]; exact rxv_new w x A c
  have hsz : W.heap.size = g + 1 := by rw [← hW, ← hg]; simp
  obtain ⟨l0, l1, l2, l3, l4⟩ := hx.cs
  have HT : Hid (LaidI W) := by have := ht.out.below (w' := W) (by rw [hg]; exact hbW); exact this
  have HA := hide (awake11 W HT)
  rw [hg] at r1
  have R1 : Hid (Reads W W.heap.size 1 A x.l.length (x.l.map U)) := (r1.out.below hbW).more (by omega)
  have T1 := hide (fun V (h : Below W.heap.size W V) => toX_any x A c V (hide ((R1.out.below h).more h.size)) (by omega))
  have Q1 := hide (fun V (h : Below W.heap.size W V) => rright_any x A c V hix (hide ((R1.out.below h).more h.size)) (by omega))
  have PR : Hid (∀ V, Below W.heap.size W V → ∀ Bz dz, Reads V V.heap.size 1 Bz x.l.length (x.l.map U) → Calls Tryz.prog 11 #[.agg #[.int .i64 x.code, .int .u64 (x.a : Int), .int .u64 (x.b : Int), .int .i64 x.al, .slice Bz x.l.length dz]] V (SaysP V (printX x))) := (fun V (h : Below W.heap.size W V) Bz dz (h1 : Reads V V.heap.size 1 Bz x.l.length (x.l.map U)) => insPrint_any x Bz dz V hix (hide h1) (by omega) (hide ((HT.out.below h).c)))
  have RP : Hid (∀ V, Below W.heap.size W V → rightX x = true → Calls Tryz.prog 13 #[.agg #[.int .i64 x.code, .int .u64 (x.a : Int), .int .u64 (x.b : Int), .int .i64 x.al, .slice A x.l.length c]] V (fun e w' => e = .returned (.string ⟨(printX x).toArray⟩) ∧ Hid (Below V.heap.size V w'))) := (fun V (h : Below W.heap.size W V) hq => refPrint11_any x A c V hix (hide ((R1.out.below h).more h.size)) (by omega) (hide hq))
  have PX := hide (fun V (h : Below W.heap.size W V) (hq : rightX x = true) => parseX_any (printX x) V (hide (.inr ⟨x, hix.out, hq, rfl⟩)) (hide (HT.out.below h)))
  have PS := hide (fun V (h : Below W.heap.size W V) => parseX_any s V (hide (.inl (by omega))) (hide (HT.out.below h)))
  have HW := hide hW; have HB := hide hbW; have HG := hide hg; have HX := hide hx
  have HGW : Hid (g < W.heap.size) := by show g < _; omega
  have FIN : ∀ V, Below W.heap.size W V → Below w.heap.size w V := fun V h => by rw [HG.out]; exact HB.out.trans (h.mono (by have := HGW.out; omega))
  have HFIN := hide FIN
  clear FIN hW hbW hg hx ht hsz
  clear r1
  go_enter Tryz.func3, Tryz.ntmps3
  go_upto_region 1 with fail
  rw [HW.out, HG.out]
  go_wp2_with fail
  refine HA.out.mono ?_; rintro e w1 ⟨rfl, h1⟩
  have HB1 : Hid (Below W.heap.size W w1) := h1.out
  clear HA l0 l1 l2 l3 l4 h1
  obtain ⟨l0, l1, l2, l3, l4⟩ := (HX.out.below HB1.out HGW.out).cs
  obtain ⟨p, hp⟩ : ∃ p, rightX x = p := ⟨_, rfl⟩
  have HP := hide hp
  rw [hp] at Q1
  clear hp
  go_wp2_with fail
  refine (Q1.out _ HB1.out).mono ?_; rintro e w2 ⟨rfl, h2⟩
  have HB2 : Hid (Below W.heap.size W w2) := HB1.out.trans (h2.out.mono HB1.out.size)
  clear Q1 l0 l1 l2 l3 l4 h2 HB1
  obtain ⟨l0, l1, l2, l3, l4⟩ := (HX.out.below HB2.out HGW.out).cs
  go_upto_if 25 with fail
  go_cut [] (fun wx => Hid (Below W.heap.size W wx))
  case first =>
    cases p with
    | false => go_wp2_with fail; go_meet; exact HB2
    | true =>
      have hq := HP.out
      have RP := hide (fun V h => RP.out V h hq)
      have PX := hide (fun V h => PX.out V h hq)
      have HU := hide (fun (y : XI) (er : Nat) (h : ParsedR (printX x) y er) => (by
        rcases h.or_ with ⟨h1, h2, h3, h4⟩ | ⟨h1, h2, h3⟩
        · exact ⟨h4 x hix.out hq rfl, h1⟩
        · exact absurd rfl (h3 x hix.out hq) : y = x ∧ er = 0))
      clear hq
      generalize printX x = px at *
      go_wp2_with fail
      refine (T1.out _ HB2.out).mono ?_; rintro e w3 ⟨A3, c3, rfl, ho3, h3⟩
      have HB3 : Hid (Below W.heap.size W w3) := HB2.out.trans (h3.out.mono HB2.out.size)
      clear l0 l1 l2 l3 l4 h3
      obtain ⟨l0, l1, l2, l3, l4⟩ := (HX.out.below HB3.out HGW.out).cs
      go_wp2_with fail
      refine (PR.out _ HB3.out A3 c3 (Reads.of_own ho3.out)).mono ?_; rintro e w4 ⟨rfl, h4⟩
      have HB4 : Hid (Below W.heap.size W w4) := HB3.out.trans (h4.mono HB3.out.size)
      clear l0 l1 l2 l3 l4 h4 ho3
      go_wp2_with fail
      refine (PX.out _ HB4.out).mono ?_; rintro e w5 ⟨y, er, Ai, ci, rfl, hpr, hrd, h5⟩
      obtain ⟨e1, e2⟩ := HU.out y er hpr.out
      subst e1 e2
      obtain ⟨w5', hW5⟩ : ∃ W5, w5.alloc (.cells #[.int .i64 y.code, .int .u64 (y.a : Int), .int .u64 (y.b : Int), .int .i64 y.al, .slice Ai y.l.length ci] 28) = W5 := ⟨_, rfl⟩
      obtain ⟨gi, hgi⟩ : ∃ gi, w5.heap.size = gi := ⟨_, rfl⟩
      have hbi : Below w5.heap.size w5 w5' := by rw [← hW5]; exact (Below.refl _ _).alloc (Nat.le_refl _) _
      have HXI : Hid (w5'.heap[gi]? = some (.cells #[.int .i64 y.code, .int .u64 (y.a : Int), .int .u64 (y.b : Int), .int .i64 y.al, .slice Ai y.l.length ci] 28 (0, 0))) := by show _ = _; rw [← hW5, ← hgi]; exact heap_alloc_new w5 _
      have HB5 : Hid (Below W.heap.size W w5') := by
        have := HB4.out.trans (h5.out.mono HB4.out.size)
        exact this.trans (hbi.mono this.size)
      have HGI5 : Hid (gi < w5'.heap.size) := blk_lt HXI.out
      have RI5 : Hid (Reads w5' w5'.heap.size 1 Ai y.l.length (y.l.map U)) := (hrd.out.below hbi).more hbi.size
      have HW5 := hide hW5; have HGI := hide hgi
      clear hW5 hgi hbi hpr hrd h5
      go_upto_region 6 with fail
      rw [HW5.out, HGI.out]
      refine wp_region_factsR grew_ext (factsOf [fun yy _ => yy = .string ⟨px.toArray⟩,
        fun yy _ => yy = .agg #[.int .i64 y.code, .int .u64 (y.a : Int), .int .u64 (y.b : Int), .int .i64 y.al, .slice A y.l.length c],
        fun yy _ => yy = .string ⟨px.toArray⟩,
        fun yy _ => yy = .bool false,
        fun yy _ => yy = .bool false,
        fun yy _ => yy = .int .i64 0,
        fun yy _ => yy = .bool false,
        fun yy _ => yy = .bool false,
        fun yy _ => yy = .bool false,
        fun yy _ => yy = .agg #[.int .i64 y.code, .int .u64 (y.a : Int), .int .u64 (y.b : Int), .int .i64 y.al, .slice Ai y.l.length ci],
        fun yy _ => yy = .agg #[.int .i64 y.code, .int .u64 (y.a : Int), .int .u64 (y.b : Int), .int .i64 y.al, .slice Ai y.l.length ci],
        fun yy _ => yy = .agg #[.int .i64 y.code, .int .u64 (y.a : Int), .int .u64 (y.b : Int), .int .i64 y.al, .slice A y.l.length c],
        fun yy _ => yy = .bool true,
        fun yy _ => yy = .bool false,
        fun yy _ => yy = .bool false]) (by kernel_rfl) (by kernel_rfl) ?_ ?_
      · refine ⟨?_, ?_, ?_, ?_, ?_, ?_, ?_, ?_, ?_, ?_, ?_, ?_, ?_, ?_, ?_, trivial⟩
        · refine ⟨fun ρ W3 hk => ?_⟩
          have o5 : ρ (.tmp 5) = .string ⟨px.toArray⟩ := hk.old 5 (by decide)
          exact OpOut.move (.tmp 5) rfl ⟨Below.refl _ _, o5⟩
        · refine ⟨fun ρ W3 hk => ?_⟩
          have o2 : ρ (.tmp 2) = .pointer (some ⟨g, 0, none⟩) := hk.old 2 (by decide)
          have hv := HX.out.below (HB5.out.trans (hk.below.mono HB5.out.size)) HGW.out
          exact OpOut.load (x := .tmp 2) rfl o2 (run_loadX hv) ⟨Below.refl _ _, rfl⟩
        · refine ⟨fun ρ W3 hk => ?_⟩
          have h1 := (hk.fact 1 35 (by decide) rfl).pure
          refine OpOut.fn (args := #[.agg #[.int .i64 y.code, .int .u64 (y.a : Int), .int .u64 (y.b : Int), .int .i64 y.al, .slice A y.l.length c]]) rfl (hk.func _) (by simp [h1]) Tryz.func13 (by kernel_rfl) rfl ?_
          refine (RP.out W3 (HB5.out.trans (hk.below.mono HB5.out.size))).mono ?_; rintro e w6 ⟨rfl, hb6⟩
          exact ⟨_, rfl, hb6.out, rfl⟩
        · refine ⟨fun ρ W3 hk => ?_⟩
          have h0 := (hk.fact 0 34 (by decide) rfl).pure
          have h2 := (hk.fact 2 36 (by decide) rfl).pure
          exact OpOut.bin (x := .tmp 34) (y := .tmp 36) (v := .bool false) rfl (by rw [h0, h2]; go_simp) (by rw [h0, h2]; exact run_neq_same _ W3) ⟨Below.refl _ _, rfl⟩
        · refine ⟨fun ρ W3 hk => ?_⟩
          have h3 := (hk.fact 3 37 (by decide) rfl).pure
          exact OpOut.move (.tmp 37) rfl ⟨Below.refl _ _, h3⟩
        · refine ⟨fun ρ W3 hk => ?_⟩
          have o7 : ρ (.tmp 7) = .int .i64 0 := hk.old 7 (by decide)
          have h4 := (hk.fact 4 38 (by decide) rfl).pure
          refine ⟨38, rfl, .inl ⟨false, h4, fun _ => ?_, fun h => absurd rfl h⟩⟩
          exact OpOut.move (.tmp 7) rfl ⟨Below.refl _ _, o7⟩
        · refine ⟨fun ρ W3 hk => ?_⟩
          have h5 := (hk.fact 5 39 (by decide) rfl).pure
          have h4 := (hk.fact 4 38 (by decide) rfl).pure
          refine ⟨38, rfl, .inl ⟨false, h4, fun _ => ?_, fun h => absurd rfl h⟩⟩
          exact OpOut.bin (x := .tmp 39) (y := .const (.int .i64 0)) (v := .bool false) rfl (by rw [h5, hk.const]; go_simp) (by rw [h5, hk.const]; go_simp) ⟨Below.refl _ _, rfl⟩
        · refine ⟨fun ρ W3 hk => ?_⟩
          have h4 := (hk.fact 4 38 (by decide) rfl).pure
          have h6 := (hk.fact 6 40 (by decide) rfl).pure
          exact OpOut.pick (c := .tmp 38) (b := false) rfl h4 ⟨Below.refl _ _, h6⟩
        · refine ⟨fun ρ W3 hk => ?_⟩
          have h7 := (hk.fact 7 41 (by decide) rfl).pure
          exact OpOut.move (.tmp 41) rfl ⟨Below.refl _ _, h7⟩
        · refine ⟨fun ρ W3 hk => ?_⟩
          have o6 : ρ (.tmp 6) = .pointer (some ⟨gi, 0, none⟩) := hk.old 6 (by decide)
          have h8 := (hk.fact 8 42 (by decide) rfl).pure
          refine ⟨42, rfl, .inl ⟨false, h8, fun _ => ?_, fun h => absurd rfl h⟩⟩
          have hv : XV W3 gi y Ai ci := ⟨(hk.below.block gi HGI5.out).trans HXI.out⟩
          exact OpOut.load (x := .tmp 6) rfl o6 (run_loadXV hv) ⟨Below.refl _ _, rfl⟩
        · refine ⟨fun ρ W3 hk => ?_⟩
          have h9 := (hk.fact 9 43 (by decide) rfl).pure
          have h8 := (hk.fact 8 42 (by decide) rfl).pure
          refine ⟨42, rfl, .inl ⟨false, h8, fun _ => ?_, fun h => absurd rfl h⟩⟩
          refine OpOut.fn (args := #[.agg #[.int .i64 y.code, .int .u64 (y.a : Int), .int .u64 (y.b : Int), .int .i64 y.al, .slice Ai y.l.length ci]]) rfl (hk.func _) (by simp [h9]) Tryz.func15 (by kernel_rfl) rfl ?_
          refine (ofX_any y Ai ci W3).mono ?_; rintro e w6 ⟨rfl, hb6⟩
          exact ⟨_, rfl, hb6.out, rfl⟩
        · refine ⟨fun ρ W3 hk => ?_⟩
          have o2 : ρ (.tmp 2) = .pointer (some ⟨g, 0, none⟩) := hk.old 2 (by decide)
          have h8 := (hk.fact 8 42 (by decide) rfl).pure
          refine ⟨42, rfl, .inl ⟨false, h8, fun _ => ?_, fun h => absurd rfl h⟩⟩
          have hv := HX.out.below (HB5.out.trans (hk.below.mono HB5.out.size)) HGW.out
          exact OpOut.load (x := .tmp 2) rfl o2 (run_loadX hv) ⟨Below.refl _ _, rfl⟩
        · refine ⟨fun ρ W3 hk => ?_⟩
          have h10 := (hk.fact 10 44 (by decide) rfl).pure
          have h11 := (hk.fact 11 45 (by decide) rfl).pure
          have h8 := (hk.fact 8 42 (by decide) rfl).pure
          refine ⟨42, rfl, .inl ⟨false, h8, fun _ => ?_, fun h => absurd rfl h⟩⟩
          refine OpOut.fn (args := #[.agg #[.int .i64 y.code, .int .u64 (y.a : Int), .int .u64 (y.b : Int), .int .i64 y.al, .slice Ai y.l.length ci], .agg #[.int .i64 y.code, .int .u64 (y.a : Int), .int .u64 (y.b : Int), .int .i64 y.al, .slice A y.l.length c]]) rfl (hk.func _) (by simp [h10, h11]) Tryz.func14 (by kernel_rfl) rfl ?_
          refine (rsame2_any y y Ai A ci c W3 (hide ((RI5.out.below hk.below).more hk.below.size)) (hide ((R1.out.below (HB5.out.trans (hk.below.mono HB5.out.size))).more (Nat.le_trans HB5.out.size hk.below.size))) (by omega) (by omega)).mono ?_; rintro e w6 ⟨rfl, hb6⟩
          exact ⟨_, rfl, hb6.out, congrArg Value.bool (sameX_refl _)⟩
        · refine ⟨fun ρ W3 hk => ?_⟩
          have h12 := (hk.fact 12 46 (by decide) rfl).pure
          have h8 := (hk.fact 8 42 (by decide) rfl).pure
          refine ⟨42, rfl, .inl ⟨false, h8, fun _ => ?_, fun h => absurd rfl h⟩⟩
          exact OpOut.un (x := .tmp 46) rfl (by rw [h12]; go_simp) ⟨Below.refl _ _, rfl⟩
        · refine ⟨fun ρ W3 hk => ?_⟩
          have h8 := (hk.fact 8 42 (by decide) rfl).pure
          have h13 := (hk.fact 13 47 (by decide) rfl).pure
          exact OpOut.pick (c := .tmp 42) (b := false) rfl h8 ⟨Below.refl _ _, h13⟩
      intro vs w6 hb hf
      have h14 := (hf 14 (by decide)).pure
      clear hf
      simp only [fillL]
      go_frame
      rw [h14]
      have HB6 : Hid (Below W.heap.size W w6) := HB5.out.trans (hb.mono HB5.out.size)
      clear hb
      go_wp2_with fail
      go_meet
      exact HB6
  case rest =>
    have HB3 := hcut
    clear hcut l0 l1 l2 l3 l4 HB2 RP PX T1 PR HP HX R1
    go_wp2_with fail
    refine (PS.out _ HB3.out).mono ?_; rintro e w5 ⟨y, er, Ai, ci, rfl, hpr, hrd, h5⟩
    obtain ⟨w5', hW5⟩ : ∃ W5, w5.alloc (.cells #[.int .i64 y.code, .int .u64 (y.a : Int), .int .u64 (y.b : Int), .int .i64 y.al, .slice Ai y.l.length ci] 28) = W5 := ⟨_, rfl⟩
    obtain ⟨gi, hgi⟩ : ∃ gi, w5.heap.size = gi := ⟨_, rfl⟩
    have hbi : Below w5.heap.size w5 w5' := by rw [← hW5]; exact (Below.refl _ _).alloc (Nat.le_refl _) _
    have HV : Hid (XV w5' gi y Ai ci) := ⟨by rw [← hW5, ← hgi]; exact heap_alloc_new w5 _⟩
    have HB5 : Hid (Below W.heap.size W w5') := by
      have := HB3.out.trans (h5.out.mono HB3.out.size)
      exact this.trans (hbi.mono this.size)
    have HGI5 : Hid (gi < w5'.heap.size) := blk_lt HV.out.blk
    have RI5 : Hid (Reads w5' w5'.heap.size 1 Ai y.l.length (y.l.map U)) := (hrd.out.below hbi).more hbi.size
    have HW5 := hide hW5; have HGI := hide hgi
    have hyl := parsed_len hpr.out
    obtain ⟨l0, l1, l2, l3, l4⟩ := HV.out.cs
    clear hW5 hgi hbi hrd h5
    rcases hpr.out.or_ with ⟨e1, hy, hys, _⟩ | ⟨e1, hy, _⟩
    · subst e1
      have HOF := hide (fun V => ofX_any y Ai ci V)
      have RR := hide (fun V (h : Below w5'.heap.size w5' V) => rright_any y Ai ci V (hide hpr.out.in_) (hide ((RI5.out.below h).more h.size)) (by omega))
      rw [hy] at RR
      have RP : Hid (∀ V, Below w5'.heap.size w5' V → Calls Tryz.prog 13 #[.agg #[.int .i64 y.code, .int .u64 (y.a : Int), .int .u64 (y.b : Int), .int .i64 y.al, .slice Ai y.l.length ci]] V (fun e w' => e = .returned (.string ⟨(printX y).toArray⟩) ∧ Hid (Below V.heap.size V w'))) := (fun V (h : Below w5'.heap.size w5' V) => refPrint11_any y Ai ci V (hide hpr.out.in_) (hide ((RI5.out.below h).more h.size)) (by omega) (hide hy))
      rw [hys] at RP
      clear hy hys hpr
      go_upto_region 9 with fail
      rw [HW5.out, HGI.out]
      go_wp2_with fail
      refine (HOF.out _).mono ?_; rintro e w6 ⟨rfl, h6⟩
      have H6 : Hid (Below w5'.heap.size w5' w6) := h6
      clear l0 l1 l2 l3 l4 h6
      obtain ⟨l0, l1, l2, l3, l4⟩ := (HV.out.below H6.out HGI5.out).cs
      go_wp2_with fail
      refine (RR.out _ H6.out).mono ?_; rintro e w7 ⟨rfl, h7⟩
      have H7 : Hid (Below w5'.heap.size w5' w7) := H6.out.trans (h7.out.mono H6.out.size)
      clear l0 l1 l2 l3 l4 h7
      obtain ⟨l0, l1, l2, l3, l4⟩ := (HV.out.below H7.out HGI5.out).cs
      go_wp2_with fail
      refine (HOF.out _).mono ?_; rintro e w8 ⟨rfl, h8⟩
      have H8 : Hid (Below w5'.heap.size w5' w8) := H7.out.trans (h8.out.mono H7.out.size)
      clear l0 l1 l2 l3 l4 h8
      go_wp2_with fail
      refine (RP.out _ H8.out).mono ?_; rintro e w9 ⟨rfl, h9⟩
      have H9 : Hid (Below W.heap.size W w9) := HB5.out.trans ((H8.out.trans (h9.out.mono H8.out.size)).mono HB5.out.size)
      clear h9
      have hee : ((⟨s.toArray⟩ : ByteArray) == ⟨s.toArray⟩) = true := by show (s.toArray == s.toArray) = true; simp
      go_wp2_with fail
      go_ret
      exact ⟨by first | rfl | simp, HFIN.out _ H9.out⟩
    · subst e1
      have HSA := hide (fun V (h : Below w5'.heap.size w5' V) => isame2_any y zeroX Ai none ci 0 V (hide ((RI5.out.below h).more h.size)) (hide Reads.none_) (by omega) (by simp [zeroX]))
      subst hy
      clear hpr hyl
      go_upto_region 9 with fail
      rw [HW5.out, HGI.out]
      go_wp2_with fail
      refine (HSA.out _ (Below.refl _ _)).mono ?_; rintro e w8 ⟨rfl, h8⟩
      have H9 : Hid (Below W.heap.size W w8) := HB5.out.trans (h8.out.mono HB5.out.size)
      clear l0 l1 l2 l3 l4 h8
      have HS := sameX_refl zeroX
      go_wp2_with fail
      go_ret
      exact ⟨rfl, HFIN.out _ H9.out⟩
end Go.Proofs.YtpanlhbdphobdaaGreatDoor

namespace Go.Proofs.YtpanlhbdphobdaaGreatDoor
open Go.RowKit
set_option linter.unusedVariables false

theorem InstrPrints_o0 {H : Type} {enc : TypeId × Value → H} {w : World} : Opens enc Tryz.prog w 25 riD (riOk w) := riX_opens
theorem InstrPrints_walk (p : RI) (s : ByteArray) (w : World) (h0 : riOk w p) (hs : s.size ≤ maxLen) (hP : LaidLF w) :
    Calls Tryz.prog 3 #[.agg (riD p).toArray, .string s] w fun e w' => e = .returned (.bool true) ∧ Below w.heap.size w w' := by
  rw [riX_D h0]
  have b4 : s.data.toList.length ≤ 9223372036854775807 := by show s.size ≤ _; unfold maxLen at hs; omega
  show Calls Tryz.prog 3 #[_, .string ⟨s.data.toList.toArray⟩] w _
  generalize s.data.toList = bs at *
  by_cases h : (riX p).l.length ≤ 120 ∧ bs.length ≤ 200
  · exact prints_few (riX p) _ _ bs w (hide hP.i) (hide (riX_in h0)) (hide (riX_reads h0)) h.1 h.2
  · exact prints_many (riX p) _ _ bs w (hide hP.i) (riX_bd h0) b4 (by omega)
end Go.Proofs.YtpanlhbdphobdaaGreatDoor
