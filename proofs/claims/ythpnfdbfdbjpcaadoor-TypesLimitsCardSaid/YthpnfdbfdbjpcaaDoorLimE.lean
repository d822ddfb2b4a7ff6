/-
  types: TypesLimits: the walk.
-/
import Derived.Test.YthpnfdbfdbjpcaaDoorLimD
namespace Go.Proofs.YthpnfdbfdbjpcaaDoor
open Go.RowKit
set_option linter.unusedVariables false

theorem u64_of (a : Int) : ∃ v : Nat, (v : Int) = a % 18446744073709551616 ∧ v ≤ 18446744073709551615 ∧ v = (a % 18446744073709551616).toNat := ⟨(a % 18446744073709551616).toNat, by omega, by omega, rfl⟩
theorem refPrint_int (a : Int) (h0 : -9223372036854775808 ≤ a) (h1 : a ≤ 9223372036854775807) (w : World) : Calls Tryd.prog 5 #[.int .i64 64, .int .u64 (IntKind.u64.wrap a)] w (SaysP w (Lib.itoa a)) := by
  obtain ⟨v, hv, hv2, hv3⟩ := u64_of a
  have h := refPrint_64 64 (by decide) v w hv2
  rw [hv, hv3, printL_int a h0 h1] at h
  rw [IntKind.wrap_u64]
  exact h

set_option maxHeartbeats 3200000 in
set_option maxRecDepth 100000 in
theorem tlimits_any (a b m : Int) (wide : Bool) (s : List UInt8) (w : World) (a0 : -9223372036854775808 ≤ a) (a1 : a ≤ 9223372036854775807) (b0 : -9223372036854775808 ≤ b) (b1 : b ≤ 9223372036854775807) (hl : s.length ≤ 9223372036854775807) (ht : LaidL w) :
    Calls Tryd.prog 3 #[limV a b wide, .int .i64 m, .string ⟨s.toArray⟩] w fun e w' => e = .returned (.bool true) ∧ Below w.heap.size w w' := by
  unfold limV
  obtain ⟨g, hg⟩ : ∃ g, w.heap.size = g := ⟨_, rfl⟩
  obtain ⟨w1, hw1⟩ : ∃ w1, w.alloc (.cells #[.int .i64 a, .int .i64 b, .bool wide] 23) = w1 := ⟨_, rfl⟩
  have hL : LimAt w1 g a b wide := by rw [← hw1, ← hg]; exact LimAt.new w a b wide
  have hB : Below w.heap.size w w1 := by rw [← hw1]; exact (Below.refl _ _).alloc (Nat.le_refl _) _
  have LB : Hid (∀ W, Below g w W → LaidL W) := fun W h => ht.below (by rw [hg]; exact h)
  rw [hg] at hB ⊢
  have HW1 := hide hw1
  have HG := hide hg
  have HL := hide hL
  have HB := hide hB
  have HA := hide (awakeT w1 (hide (LB.out w1 hB).ml))
  have HSZ : (⟨s.toArray⟩ : ByteArray).size = s.length := rfl
  clear hw1 hg ht
  by_cases hs : (100 : Int) < s.length
  · clear hL hB
    go_enter Tryd.func3, Tryd.ntmps3
    go_wp2_with fail
    rw [HW1.out]
    refine HA.out.mono ?_; rintro e w2 ⟨rfl, hb2⟩
    have HB2 := hide (HB.out.trans (hb2.mono (Nat.le_of_lt HL.out.lt)))
    clear hb2
    go_wp2_with fail
    go_ret
    exact ⟨rfl, HB2.out⟩
  · have hs' : (s.length : Int) ≤ 100 := by omega
    clear hs
    clear hL hB
    go_enter Tryd.func3, Tryd.ntmps3
    go_wp2_with fail
    rw [HW1.out, HG.out]
    refine HA.out.mono ?_; rintro e w2 ⟨rfl, hb2⟩
    have H2 := hide (HL.out.below hb2)
    have HB2 := hide (HB.out.trans (hb2.mono (Nat.le_of_lt HL.out.lt)))
    clear hb2
    have c0 := H2.out.c0
    have c1 := H2.out.c1
    have c2 := H2.out.c2
    go_upto_region 3 with fail
    go_cut [7] (fun q wx => q = .bool (limRight a b m) ∧ wx = w2)
    case first =>
      by_cases h1 : 0 ≤ a
      · by_cases h2 : a ≤ m
        · by_cases h3 : b < 0
          · have e : limRight a b m = true := by unfold limRight; simp [h1, h2, h3]
            have HE := hide e; clear e
            go_wp2_with fail
            go_meet
            exact ⟨by rw [HE.out], rfl⟩
          · by_cases h4 : a ≤ b
            · by_cases h5 : b ≤ m
              · have e : limRight a b m = true := by unfold limRight; simp [h1, h2, h3, h4, h5]
                have HE := hide e; clear e
                go_wp2_with fail
                go_meet
                exact ⟨by rw [HE.out], rfl⟩
              · have e : limRight a b m = false := by unfold limRight; simp [h1, h2, h3, h4, h5]
                have HE := hide e; clear e
                go_wp2_with fail
                go_meet
                exact ⟨by rw [HE.out], rfl⟩
            · have e : limRight a b m = false := by unfold limRight; simp [h1, h2, h3, h4]
              have HE := hide e; clear e
              go_wp2_with fail
              go_meet
              exact ⟨by rw [HE.out], rfl⟩
        · have e : limRight a b m = false := by unfold limRight; simp [h1, h2]
          have HE := hide e; clear e
          go_wp2_with fail
          go_meet
          exact ⟨by rw [HE.out], rfl⟩
      · have e : limRight a b m = false := by unfold limRight; simp [h1]
        have HE := hide e; clear e
        go_wp2_with fail
        go_meet
        exact ⟨by rw [HE.out], rfl⟩
    obtain ⟨rfl, rfl⟩ := hcut
    go_upto_if 56 with fail
    go_cut [8] (fun q wx => q = .int .i64 (if b < 0 then m else b) ∧ wx = wc)
    case first =>
      by_cases h1 : b < 0
      · have HE : Hid ((if b < 0 then m else b) = m) := if_pos h1
        go_wp2_with fail
        go_meet
        exact ⟨by rw [HE.out], rfl⟩
      · have HE : Hid ((if b < 0 then m else b) = b) := if_neg h1
        have h1' : 0 ≤ b := by omega
        clear h1
        go_wp2_with fail
        go_meet
        exact ⟨by rw [HE.out], rfl⟩
    obtain ⟨rfl, rfl⟩ := hcut
    have RI := hide (fun W => limRight_any a b m wide W)
    have MO := hide (fun W => limMost_any a b m wide W)
    generalize limRight a b m = is at *
    generalize (if b < 0 then m else b) = high at *
    have PA := hide (fun W => refPrint_int a a0 a1 W)
    have PB := hide (fun W => refPrint_int b b0 b1 W)
    have la := itoa_len a a0 a1
    have lb := itoa_len b b0 b1
    have LN := hide (fun h => limL_neg (a := a) (b := b) (wide := wide) h)
    have LP := hide (fun h => limL_pos (a := a) (b := b) (wide := wide) h)
    have LX := hide la
    have LY := hide lb
    have PR := hide (fun W (h : Below g w W) => limPrint_any a b wide W a0 a1 b0 b1 (hide (LB.out W h)))
    generalize Lib.itoa a = x at *
    generalize Lib.itoa b = y at *
    go_wp2_with fail
    refine (PA.out _).mono ?_; rintro e w4 ⟨rfl, hb4⟩
    have H4 := hide (H2.out.below hb4)
    have HB4 := hide (HB2.out.trans (hb4.mono (Nat.le_of_lt H2.out.lt)))
    clear hb4 c0 c1 c2 H2 HB2 HL HB HA lb
    have c1 := H4.out.c1
    go_upto_if 66 with fail
    go_cut [9] (fun q wx => q = .string ⟨(x ++ [32] ++ (if b < 0 then [45] else y)).toArray⟩ ∧ Hid (LimAt wx g a b wide) ∧ Hid (Below g w wx))
    case first =>
      by_cases h1 : b < 0
      · have HF1 : Hid ((⟨x.toArray⟩ : ByteArray) ++ ⟨#[32, 45]⟩ = ⟨(x ++ [32] ++ (if b < 0 then [45] else y)).toArray⟩) := by show _ = _; rw [if_pos h1, List.append_assoc]; exact str_cat x [32, 45]
        go_wp2_with fail
        go_meet
        exact ⟨by rw [HF1.out], H4, HB4⟩
      · have HF1 : Hid ((if b < 0 then [45] else y) = y) := if_neg h1
        have h1' : 0 ≤ b := by omega
        clear h1
        go_upto_region 9 with fail
        --REGIONA
        refine wp_region_factsR grew_ext (factsOf [fun yy _ => yy = .pointer (some ⟨g, 0, none⟩),
          fun yy _ => yy = .int .i64 a,
          fun yy _ => yy = .int .u64 (IntKind.u64.wrap a),
          fun yy _ => yy = .string ⟨x.toArray⟩,
          fun yy _ => yy = .string ⟨(x ++ [32] : List UInt8).toArray⟩,
          fun yy _ => yy = .pointer (some ⟨g, 1, none⟩),
          fun yy _ => yy = .int .i64 b,
          fun yy _ => yy = .int .u64 (IntKind.u64.wrap b),
          fun yy _ => yy = .string ⟨y.toArray⟩,
          fun yy _ => yy = .string ⟨(x ++ [32] ++ y : List UInt8).toArray⟩,
          fun yy _ => yy = .string ⟨(x ++ [32] ++ y : List UInt8).toArray⟩]) (by kernel_rfl) (by kernel_rfl) ?_ ?_
        · refine ⟨?_, ?_, ?_, ?_, ?_, ?_, ?_, ?_, ?_, ?_, ?_, trivial⟩
          · refine ⟨fun ρ W hk => ?_⟩
            have o3 : ρ (.tmp 3) = .pointer (some ⟨g, 0, none⟩) := hk.old 3 (by decide)
            exact OpOut.fieldAddr (x := .tmp 3) rfl o3 (by go_simp) ⟨Below.refl _ _, rfl⟩
          · refine ⟨fun ρ W hk => ?_⟩
            have h0 := (hk.fact 0 67 (by decide) rfl).pure
            have hc := (H4.out.below hk.below).c0
            exact OpOut.load (x := .tmp 67) rfl h0 (by go_simp) ⟨Below.refl _ _, rfl⟩
          · refine ⟨fun ρ W hk => ?_⟩
            have h1 := (hk.fact 1 68 (by decide) rfl).pure
            exact OpOut.conv (x := .tmp 68) rfl (by rw [h1]; exact (by go_simp)) ⟨Below.refl _ _, rfl⟩
          · refine ⟨fun ρ W hk => ?_⟩
            have h2 := (hk.fact 2 69 (by decide) rfl).pure
            refine OpOut.fn (args := #[.int .i64 64, .int .u64 (IntKind.u64.wrap a)]) rfl (hk.func _) (by simp [h2, hk.const]) Tryd.func5 (by kernel_rfl) rfl ?_
            refine (PA.out W).mono ?_; rintro e w5 ⟨rfl, hb5⟩
            exact ⟨_, rfl, hb5, rfl⟩
          · refine ⟨fun ρ W hk => ?_⟩
            have h3 := (hk.fact 3 70 (by decide) rfl).pure
            exact OpOut.bin (x := .tmp 70) (y := .const (.string ⟨#[32]⟩)) (v := .string ⟨(x ++ [32] : List UInt8).toArray⟩) rfl (by rw [h3, hk.const]; go_simp) (by rw [h3, hk.const]; exact run_cat x [32] _ _ (by have := LX.out; simp only [List.length_cons, List.length_nil]; omega)) ⟨Below.refl _ _, rfl⟩
          · refine ⟨fun ρ W hk => ?_⟩
            have o3 : ρ (.tmp 3) = .pointer (some ⟨g, 0, none⟩) := hk.old 3 (by decide)
            exact OpOut.fieldAddr (x := .tmp 3) rfl o3 (by go_simp) ⟨Below.refl _ _, rfl⟩
          · refine ⟨fun ρ W hk => ?_⟩
            have h5 := (hk.fact 5 72 (by decide) rfl).pure
            have hc := (H4.out.below hk.below).c1
            exact OpOut.load (x := .tmp 72) rfl h5 (by go_simp) ⟨Below.refl _ _, rfl⟩
          · refine ⟨fun ρ W hk => ?_⟩
            have h6 := (hk.fact 6 73 (by decide) rfl).pure
            exact OpOut.conv (x := .tmp 73) rfl (by rw [h6]; exact (by go_simp)) ⟨Below.refl _ _, rfl⟩
          · refine ⟨fun ρ W hk => ?_⟩
            have h7 := (hk.fact 7 74 (by decide) rfl).pure
            refine OpOut.fn (args := #[.int .i64 64, .int .u64 (IntKind.u64.wrap b)]) rfl (hk.func _) (by simp [h7, hk.const]) Tryd.func5 (by kernel_rfl) rfl ?_
            refine (PB.out W).mono ?_; rintro e w5 ⟨rfl, hb5⟩
            exact ⟨_, rfl, hb5, rfl⟩
          · refine ⟨fun ρ W hk => ?_⟩
            have h4 := (hk.fact 4 71 (by decide) rfl).pure
            have h8 := (hk.fact 8 75 (by decide) rfl).pure
            exact OpOut.bin (x := .tmp 71) (y := .tmp 75) (v := .string ⟨(x ++ [32] ++ y : List UInt8).toArray⟩) rfl (by rw [h4, h8]; go_simp) (by rw [h4, h8]; exact run_cat (x ++ [32]) y _ _ (by have := LX.out; have := LY.out; simp only [List.length_append, List.length_cons, List.length_nil]; omega)) ⟨Below.refl _ _, rfl⟩
          · refine ⟨fun ρ W hk => ?_⟩
            have h9 := (hk.fact 9 76 (by decide) rfl).pure
            exact OpOut.assign (.tmp 76) rfl ⟨Below.refl _ _, h9⟩
        · intro vs W hb hf
          have h10 := (hf 10 (by decide)).pure
          clear hf
          simp only [fillL]
          go_frame
          rw [h10]
        --ENDA
          go_wp2_with fail
          go_meet
          exact ⟨by rw [HF1.out], hide (H4.out.below hb), hide (HB4.out.trans (hb.mono (Nat.le_of_lt H4.out.lt)))⟩
    obtain ⟨rfl, H5, HB5⟩ := hcut
    clear H4 HB4 c1
    obtain ⟨z, hz⟩ : ∃ z, x ++ [32] ++ (if b < 0 then [45] else y) = z := ⟨_, rfl⟩
    have hzl : z.length ≤ 60 := by
      rw [← hz]
      have h1 := LX.out
      have h2 := LY.out
      split <;> (simp only [List.length_append, List.length_cons, List.length_nil]; omega)
    have hlim : z ++ suf wide = limL a b wide := by
      rw [← hz]
      by_cases h1 : b < 0
      · rw [if_pos h1, LN.out h1]
      · rw [if_neg h1, LP.out (by omega)]
    have hsf : (suf wide).length ≤ 4 := by unfold suf; split <;> simp
    have htl : (limL a b wide).length ≤ 64 := by rw [← hlim, List.length_append]; omega
    rw [hz]
    have hpl := fun (W : World) (h : Hid (LaidL W)) => parseLim_any (limL a b wide) W (by omega) h
    have hpl2 : Hid (∀ W, Below g w W → Calls Tryd.prog 6 #[.string ⟨(limL a b wide).toArray⟩] W fun e w' => Below W.heap.size W w' ∧ ∃ (xa xb : Int) (xw : Bool) (er : Int), e = .returned (.tuple #[.agg #[.int .i64 xa, .int .i64 xb, .bool xw], .int .i64 er]) ∧ Hid (0 ≤ a → a ≤ 1000000000 → b ≤ 1000000000 → er = 0 ∧ xa = a ∧ xw = wide ∧ xb = max b (-1))) := by
      intro W hW
      refine (hpl W (hide (LB.out W hW))).mono ?_
      rintro e w' ⟨hb, h⟩
      refine ⟨hb, ?_⟩
      have key : 0 ≤ a → a ≤ 1000000000 → b ≤ 1000000000 → Lim (limL a b wide) a (max b (-1)) wide := fun g1 g2 g3 => by
        refine ⟨?_, g1, g2, by omega, by omega⟩
        by_cases h1 : b < 0
        · rw [limL_neg h1, limL_neg (by omega)]
        · rw [show max b (-1) = b from by omega]
      rcases h with ⟨xa, xb, xw, h1, rfl⟩ | ⟨h1, rfl⟩
      · refine ⟨xa, xb, xw, 0, rfl, fun g1 g2 g3 => ?_⟩
        obtain ⟨k1, k2, k3⟩ := lim_unique h1 (key g1 g2 g3)
        exact ⟨rfl, k1, k3, k2⟩
      · exact ⟨0, 0, false, 4, rfl, fun g1 g2 g3 => absurd (key g1 g2 g3) (h1 _ _ _)⟩
    have HC2 : Hid ((⟨z.toArray⟩ : ByteArray) ++ ⟨#[32, 105, 54, 52]⟩ = ⟨(z ++ [32, 105, 54, 52]).toArray⟩) := str_cat z [32, 105, 54, 52]
    have HLIM := hide hlim
    generalize limL a b wide = tx at *
    clear hz hlim hpl LN LP PA PB LX LY la htl hsf
    have c2 := H5.out.c2
    go_upto_if 78 with fail
    go_cut [9] (fun q wx => q = .string ⟨tx.toArray⟩ ∧ wx = wc)
    case first =>
      cases wide with
      | true =>
        go_wp2_with fail
        go_meet
        exact ⟨by rw [HC2.out, ← HLIM.out]; rfl, rfl⟩
      | false =>
        go_wp2_with fail
        go_meet
        exact ⟨by rw [← HLIM.out]; simp [suf], rfl⟩
    obtain ⟨rfl, rfl⟩ := hcut
    have c0 := H5.out.c0
    have c1 := H5.out.c1
    clear HC2 HLIM hzl
    go_wp2_with fail
    refine (PR.out _ HB5.out).mono ?_; rintro e w6 ⟨rfl, hb6⟩
    have H6 := hide (H5.out.below hb6)
    have HB6 := hide (HB5.out.trans (hb6.mono (Nat.le_of_lt H5.out.lt)))
    clear hb6 c0 c1 c2 H5 HB5
    go_wp2_with fail
    refine (hpl2.out _ HB6.out).mono ?_; rintro e w7 ⟨hb7, xa, xb, xw, er, rfl, hx⟩
    have H7 := hide (H6.out.below hb7)
    have HB7 := hide (HB6.out.trans (hb7.mono (Nat.le_of_lt H6.out.lt)))
    clear hb7 H6 HB6 hpl2
    go_upto_region 13 with fail
    have HX8 : Hid (LimAt (w7.alloc (.cells #[.int .i64 xa, .int .i64 xb, .bool xw] 23)) w7.heap.size xa xb xw) := LimAt.new w7 xa xb xw
    have H8 : Hid (LimAt (w7.alloc (.cells #[.int .i64 xa, .int .i64 xb, .bool xw] 23)) g a b wide) := H7.out.below ((Below.refl _ _).alloc (Nat.le_refl _) _)
    have HB8 : Hid (Below g w (w7.alloc (.cells #[.int .i64 xa, .int .i64 xb, .bool xw] 23))) := HB7.out.alloc (Nat.le_of_lt H7.out.lt) _
    generalize w7.alloc (.cells #[.int .i64 xa, .int .i64 xb, .bool xw] 23) = w8 at *
    generalize w7.heap.size = g2 at *
    clear H7 HB7
    have c0 := H8.out.c0
    have c1 := H8.out.c1
    have c2 := H8.out.c2
    go_wp2_with fail
    refine (RI.out w8).mono ?_; rintro e w9 ⟨rfl, hb9⟩
    have H9 := hide (H8.out.below hb9)
    have HX9 := hide (HX8.out.below hb9)
    have HB9 := hide (HB8.out.trans (hb9.mono (Nat.le_of_lt H8.out.lt)))
    clear hb9 c0 c1 c2 H8 HB8 HX8 RI
    have c0 := H9.out.c0
    have c1 := H9.out.c1
    have c2 := H9.out.c2
    go_wp2_with fail
    refine (MO.out w9).mono ?_; rintro e wA ⟨rfl, hbA⟩
    have HA := hide (H9.out.below hbA)
    have HXA := hide (HX9.out.below hbA)
    have HBA := hide (HB9.out.trans (hbA.mono (Nat.le_of_lt H9.out.lt)))
    clear hbA c0 c1 c2 H9 HB9 HX9 MO
    have c0 := HA.out.c0
    have c1 := HA.out.c1
    have c2 := HA.out.c2
    go_wp2_with fail
    refine (PR.out _ HBA.out).mono ?_; rintro e wB ⟨rfl, hbB⟩
    have HL := hide (HA.out.below hbB)
    have HX := hide (HXA.out.below hbB)
    have HB := hide (HBA.out.trans (hbB.mono (Nat.le_of_lt HA.out.lt)))
    clear hbB c0 c1 c2 HA HBA HXA PR
    have c0 := HL.out.c0
    have c1 := HL.out.c1
    have c2 := HL.out.c2
    have d0 := HX.out.c0
    have d1 := HX.out.c1
    have d2 := HX.out.c2
    go_upto_region 15 with fail
    go_cut [143] (fun q wx => q = .bool false ∧ wx = wB)
    case first =>
      by_cases t0 : 0 ≤ a
      · by_cases t1 : a ≤ 1000000000
        · by_cases t2 : b ≤ 1000000000
          · obtain ⟨rfl, rfl, rfl, rfl⟩ := hx.out t0 t1 t2
            clear hx
            go_wp2_with fail
            go_meet
            exact ⟨rfl, rfl⟩
          · clear hx
            go_wp2_with fail
            go_meet
            exact ⟨rfl, rfl⟩
        · clear hx
          go_wp2_with fail
          go_meet
          exact ⟨rfl, rfl⟩
      · clear hx
        go_wp2_with fail
        go_meet
        exact ⟨rfl, rfl⟩
    obtain ⟨rfl, rfl⟩ := hcut
    clear hx c0 c1 c2 d0 d1 d2 HX
    have PS := hide (parseLim_any s wc (by omega) (hide (LB.out wc HB.out)))
    have RS := hide (fun W => refLim_any s W (by omega))
    go_wp2_with fail
    refine PS.out.mono ?_; rintro e wC ⟨hbC, hp⟩
    have HLC := hide (HL.out.below hbC)
    have HBC := hide (HB.out.trans (hbC.mono (Nat.le_of_lt HL.out.lt)))
    have HP := hide hp
    clear hbC HL HB hp PS
    rcases HP.out with ⟨ya, yb, yw, k1, rfl⟩ | ⟨k1, rfl⟩
    · have K1 := hide k1
      unfold limV
      clear k1 HP
      go_upto_region 18 with fail
      have HY : Hid (LimAt (wC.alloc (.cells #[.int .i64 ya, .int .i64 yb, .bool yw] 23)) wC.heap.size ya yb yw) := LimAt.new wC ya yb yw
      have HBD : Hid (Below g w (wC.alloc (.cells #[.int .i64 ya, .int .i64 yb, .bool yw] 23))) := HBC.out.alloc (Nat.le_of_lt HLC.out.lt) _
      generalize wC.alloc (.cells #[.int .i64 ya, .int .i64 yb, .bool yw] 23) = wD at *
      generalize wC.heap.size = g3 at *
      clear HLC HBC
      have y0 := HY.out.c0
      have y1 := HY.out.c1
      have y2 := HY.out.c2
      go_wp2_with fail
      refine (RS.out wD).mono ?_; rintro e wE ⟨rfl, ra, rb, rw_, ok, rfl, ho1, ho2⟩
      cases ok with
      | true =>
        obtain ⟨rfl, rfl, rfl⟩ := lim_unique K1.out (ho1 rfl)
        clear ho1 ho2 K1
        go_wp2_with fail
        go_ret
        exact ⟨rfl, HBD.out⟩
      | false => exact absurd K1.out (ho2 rfl _ _ _)
    · have K1 := hide k1
      unfold limV
      clear k1 HP
      go_upto_region 18 with fail
      have HY : Hid (LimAt (wC.alloc (.cells #[.int .i64 0, .int .i64 0, .bool false] 23)) wC.heap.size 0 0 false) := LimAt.new wC 0 0 false
      have HBD : Hid (Below g w (wC.alloc (.cells #[.int .i64 0, .int .i64 0, .bool false] 23))) := HBC.out.alloc (Nat.le_of_lt HLC.out.lt) _
      generalize wC.alloc (.cells #[.int .i64 0, .int .i64 0, .bool false] 23) = wD at *
      generalize wC.heap.size = g3 at *
      clear HLC HBC
      have y0 := HY.out.c0
      have y1 := HY.out.c1
      have y2 := HY.out.c2
      go_wp2_with fail
      refine (RS.out wD).mono ?_; rintro e wE ⟨rfl, ra, rb, rw_, ok, rfl, ho1, ho2⟩
      cases ok with
      | true => exact absurd (ho1 rfl) (K1.out _ _ _)
      | false =>
        clear ho1 ho2 K1
        go_wp2_with fail
        go_ret
        exact ⟨rfl, HBD.out⟩
end Go.Proofs.YthpnfdbfdbjpcaaDoor
