import Derived.Test.YtomppgohoplemaaGreatNCA
import Derived.Test.YtomppgohoplemaaGreatNBV
namespace Go.Proofs.YtomppgohoplemaaGreat
section
open Go.RowKit Go.Maps
set_option linter.unusedVariables false
section
variable {W0 : World} {m : MkS} {vo : Value} {nj nc nk : Nat} {J : Nat × Nat → Option Jmp} {C K : Nat → Option Nat} {ord : List (Nat × Nat)}
set_option maxRecDepth 100000 in
set_option maxHeartbeats 1600000 in
theorem scount_any (w : World) (h : Hid (Br W0 w m vo nj nc nk J C K ord)) (sg : Nat) (hsg : sg = W0.heap.size + 3) (a : Nat) (ha : a ≤ 1000000) :
    Calls Tryz.prog 13 #[.pointer (some ⟨sg, 0, none⟩), .int .i64 (a : Int)] w fun e w' => e = .returned (.int .i64 (((C a).getD 0 : Nat) : Int)) ∧ w = w' := by
  have c1 : w.cell? ⟨sg, 1, none⟩ = some (.map (some (W0.heap.size + 1))) := by rw [hsg]; exact cell_blk h.out.blk 1
  have hlk : (Instr.lookup 92 (.map (some (W0.heap.size + 1))) (.int .i64 (a : Int)) false).run Tryz.prog w = .ok (.int .i64 (((C a).getD 0 : Nat) : Int)) w := by
    have := h.out.c.look1 (x := (a : Int)) (ok64 (by omega) (by omega))
    rw [natF_at] at this
    rw [this]
    cases C a <;> rfl
  obtain ⟨cc, hcc⟩ : ∃ cc, (C a).getD 0 = cc := ⟨_, rfl⟩
  rw [hcc] at hlk ⊢
  clear hcc hsg
  go_enter Tryz.func13, Tryz.ntmps13
  go_wp2_with fail
  go_ret
  exact ⟨rfl, rfl⟩
set_option maxRecDepth 100000 in
set_option maxHeartbeats 1600000 in
theorem slen_any (w : World) (h : Hid (Br W0 w m vo nj nc nk J C K ord)) (sg : Nat) (hsg : sg = W0.heap.size + 3) :
    Calls Tryz.prog 12 #[.pointer (some ⟨sg, 0, none⟩)] w fun e w' => e = .returned (.int .i64 (ord.length : Int)) ∧ w = w' := by
  obtain ⟨A, c, hv, _, _⟩ := own_form h.out.ord
  have c3 : w.cell? ⟨sg, 3, none⟩ = some (.slice A ord.length c) := by rw [hsg, ← hv]; exact cell_blk h.out.blk 3
  clear hsg hv
  go_enter Tryz.func12, Tryz.ntmps12
  go_wp2_with fail
  go_ret
  exact ⟨rfl, rfl⟩
end
section
variable {P : Program} {o : Oper} {ρ : Operand → Value} {W W' : World} {post : Value → World → Prop} {v : Value}
theorem OpOut.lookupS {t : TypeId} {x y : Operand} {a b : Value} (ho : o.op = .lookup t x y false) (hx : ρ x = a) (hy : ρ y = b) (hr : (Instr.lookup t a b false).run P W = .ok v W) (h : post v W) : OpOut P o ρ W post :=
  ⟨by unfold execOp; rw [ho]; simp only [hx, hy, Sem.run_bind, Sem.run_pure, hr, Result.andThen_ok]; exact h⟩
theorem OpOut.allocS {t : TypeId} (ho : o.op = .alloc t) (hr : (Instr.alloc t true (.tuple #[])).run P W = .ok v W') (h : post v W') : OpOut P o ρ W post :=
  ⟨by unfold execOp; rw [ho]; simp only [Sem.run_bind, Sem.run_pure, hr, Result.andThen_ok]; exact h⟩
end
def jlist (J : Nat × Nat → Option Jmp) (ord : List (Nat × Nat)) : List Jmp := ord.map (fun p => (J p).getD ⟨0, 0, 0⟩)
theorem jlist_len (J : Nat × Nat → Option Jmp) (ord : List (Nat × Nat)) : (jlist J ord).length = ord.length := by simp [jlist]
def PutP (s : ArS) (c : Nat) (ws : List Nat) (lo : Nat) (w : World) (e : Ending) (w' : World) : Prop :=
  e = .returned (.tuple #[.int .i64 0, .int .i64 0]) ∧ ∃ (bs rest : List UInt8), Hid (Ar w' { s.took c with bs := bs }) ∧ Hid (bs = wordsB ws ++ rest) ∧ Hid (Below lo w w')
section
variable {W0 : World} {m : MkS} {vo : Value} {nj nc nk : Nat} {J : Nat × Nat → Option Jmp} {C K : Nat → Option Nat} {ord : List (Nat × Nat)}
theorem run_convI {n : Nat} (h : n ≤ 4294967295) (W : World) : (convert 3 66 (.int .i64 (n : Int))).run Tryz.prog W = .ok (.int .u64 (n : Int)) W := by
  have h2 : (n : Int) ≤ 4294967295 := by omega
  go_simp
  rw [IntKind.wrap_u64]
  omega
set_option maxRecDepth 100000 in
set_option maxHeartbeats 1600000 in
theorem sput_full (w1 w : World) (h : Hid (Br W0 w1 m vo nj nc nk J C K ord)) (hw : Hid (Below w1.heap.size w1 w)) (sg : Nat) (hsg : sg = W0.heap.size + 3) (s : ArS) (hA : Hid (Ar w s)) (hol : ord.length ≤ 200000) (hc : s.size < clsN (12 * ord.length) + s.hgt) :
    Calls Tryz.prog 10 #[.pointer (some ⟨sg, 0, none⟩), .pointer (some ⟨s.ag, 0, none⟩)] w fun e w' => e = .returned (.tuple #[.int .i64 0, .int .i64 8]) ∧ Hid (Below w.heap.size w w') := by
  have hBr := h.out.below hw.out
  obtain ⟨A, c, hv, _, _⟩ := own_form hBr.ord
  have c3 : w.cell? ⟨sg, 3, none⟩ = some (.slice A ord.length c) := by rw [hsg, ← hv]; exact cell_blk hBr.blk 3
  have HT := hide (atake_full s (12 * ord.length) w hA (by omega) hc)
  have e12 : ((12 * ord.length : Nat) : Int) = 12 * (ord.length : Int) := by omega
  rw [e12] at HT
  clear hsg hv hBr hc e12
  go_enter Tryz.func10, Tryz.ntmps10
  go_wp2_with fail
  refine HT.out.mono ?_; rintro e w' ⟨rfl, hb⟩
  go_wp2_with fail
  go_ret2
  exact ⟨rfl, hb⟩
set_option maxRecDepth 100000 in
set_option maxHeartbeats 3200000 in
theorem sput_ok (w1 w : World) (h : Hid (Br W0 w1 m vo nj nc nk J C K ord)) (hw : Hid (Below w1.heap.size w1 w)) (sg : Nat) (hsg : sg = W0.heap.size + 3) (s : ArS) (n : Nat) (hA : Hid (Ar w s)) (hN : Hid (NewAr s n w1.heap.size)) (hol : ord.length ≤ 200000) (hJ : Hid (∀ p ∈ ord, ∃ d, J p = some d ∧ d.dest ≤ 4294967295 ∧ d.keep ≤ 4294967295 ∧ d.h ≤ 4294967295)) (ho1 : Hid (∀ p ∈ ord, p.1 ≤ 1000000 ∧ p.2 ≤ 1000000)) (hc : clsN (12 * ord.length) ≤ s.size) :
    Calls Tryz.prog 10 #[.pointer (some ⟨sg, 0, none⟩), .pointer (some ⟨s.ag, 0, none⟩)] w (PutP s (clsN (12 * ord.length)) ((jlist J ord).flatMap jmpW) w1.heap.size w) := by
  have hBr := h.out.below hw.out
  obtain ⟨A, oc, hv, _, _⟩ := own_form hBr.ord
  have c3 : w.cell? ⟨sg, 3, none⟩ = some (.slice A ord.length oc) := by rw [hsg, ← hv]; exact cell_blk hBr.blk 3
  have hm4 : 12 * ord.length ≤ 4194304 := by omega
  have hge := clsN_ge hm4
  have hpos : 0 < clsN (12 * ord.length) := clsL_pos 19 16 _ (by omega)
  have HT := hide (atake_ok s n w1.heap.size (12 * ord.length) w hA hN hm4 hc hpos)
  obtain ⟨cc, hcc⟩ : ∃ cc, clsN (12 * ord.length) = cc := ⟨_, rfl⟩
  rw [hcc] at HT hc hge ⊢
  have e12 : ((12 * ord.length : Nat) : Int) = 12 * (ord.length : Int) := by omega
  rw [e12] at HT
  have hsz := hA.out.sz
  obtain ⟨WS, hWS⟩ : ∃ WS, (jlist J ord).flatMap jmpW = WS := ⟨_, rfl⟩
  have hWL : WS.length = 3 * ord.length := by rw [← hWS, jmpW_len, jlist_len]
  rw [hWS]
  have HV := hide hv; have HWS := hide hWS; have HWL := hide hWL; have HSGG := hide hsg
  clear hv hBr e12 hcc hpos hm4 hWS hWL hsg
  go_enter Tryz.func10, Tryz.ntmps10
  go_wp2_with fail
  refine HT.out.mono ?_; rintro e w2 ⟨rfl, ha2, ho2⟩
  have hlo2 : Below w1.heap.size w w2 := ho2.out.below hw.out.size (by obtain ⟨g1, g2, g3, g4⟩ := hN.out.ge; simp; omega)
  have hBr2 := h.out.below (hw.out.trans hlo2)
  have c3 : w2.cell? ⟨sg, 3, none⟩ = some (.slice A ord.length oc) := by rw [HSGG.out, ← HV.out]; exact cell_blk hBr2.blk 3
  have HLO2 := hide hlo2
  clear hlo2 hBr2 HT
  go_wp2_with fail
  go_loopw [8, 9, 10, 11, 12, 38] (fun _ _ _ _ _ c V => ∃ (k : Nat) (bs rest : List UInt8), c = .int .i64 (k : Int) ∧ k ≤ ord.length ∧ Hid (Ar V { s.took cc with bs := bs }) ∧ Hid (bs = wordsB (WS.take (3 * k)) ++ rest) ∧ Hid (Below w1.heap.size w V)) (fun _ _ _ _ _ c _ => ord.length - (intOf c).toNat)
  case atStart => exact ⟨0, s.bs, s.bs, rfl, Nat.zero_le _, ha2, by show _ = _; simp [wordsB], HLO2⟩
  case round =>
    obtain ⟨k, bs, rest, rfl, hk, har, hbs, hlo⟩ := hrel
    by_cases hlt : k < ord.length
    · have hkl : (k : Int) < (ord.length : Int) := by omega
      obtain ⟨p, hp⟩ : ∃ p, ord[k]? = some p := ⟨_, List.getElem?_eq_getElem hlt⟩
      obtain ⟨d, hd, hd1, hd2, hd3⟩ := hJ.out p (List.mem_of_getElem? hp)
      obtain ⟨hp1, hp2⟩ := ho1.out p (List.mem_of_getElem? hp)
      obtain ⟨pa, pb⟩ := p
      obtain ⟨q1, q2, q3⟩ := d
      simp only at hp1 hp2 hd1 hd2 hd3
      have hjl : (jlist J ord)[k]? = some ⟨q1, q2, q3⟩ := by unfold jlist; rw [List.getElem?_map, hp]; show some ((J (pa, pb)).getD _) = _; rw [hd]; rfl
      obtain ⟨hw0, hw1, hw2⟩ := jmpW_at hjl
      rw [HWS.out] at hw0 hw1 hw2
      simp only at hw0 hw1 hw2
      have hBrr := h.out.below (hw.out.trans hlo.out)
      obtain ⟨oq, c9, hoq⟩ := own_some hBrr.ord (by omega)
      have HVV := HV.out
      rw [hoq] at HVV
      injection HVV with e1 _ e3
      have hOr : wr.ownsRow (W0.heap.size + 5) 109 2 (.slice (some ⟨oq, 0, none⟩) ord.length c9) ord.length (ord.flatMap oD) := by rw [← hoq]; exact hBrr.ord
      have o0 : wr.cell? ⟨oq, k * 2, none⟩ = some (.int .i64 (pa : Int)) := by have := own_cell (g := oq) (dec := oD) (fun _ => rfl) hOr rfl hp 0 (by omega) _ rfl; simpa using this
      have o1 : wr.cell? ⟨oq, k * 2 + 1, none⟩ = some (.int .i64 (pb : Int)) := own_cell (g := oq) (dec := oD) (fun _ => rfl) hOr rfl hp 1 (by omega) _ rfl
      subst e1
      obtain ⟨W5, hW5, hb5, hx5, hs5⟩ := box_new wr #[.int .i64 (pa : Int), .int .i64 (pb : Int)] 109
      obtain ⟨kb, hkb⟩ : ∃ kb, wr.heap.size = kb := ⟨_, rfl⟩
      rw [hkb] at hx5 hs5
      have hBr5 := hBrr.below hb5
      have a0 : W5.cell? ⟨sg, 0, none⟩ = some (.map (some W0.heap.size)) := by rw [HSGG.out]; exact cell_blk hBr5.blk 0
      have k0 : W5.cell? ⟨kb, 0, none⟩ = some (.int .i64 (pa : Int)) := cell_blk hx5 0
      have k1 : W5.cell? ⟨kb, 1, none⟩ = some (.int .i64 (pb : Int)) := cell_blk hx5 1
      have hlk : ∀ V, Below W5.heap.size W5 V → (Instr.lookup 91 (.map (some W0.heap.size)) (.agg #[.int .i64 (pa : Int), .int .i64 (pb : Int)]) false).run Tryz.prog V = .ok (.agg #[.int .i64 (q1 : Int), .int .i64 (q2 : Int), .int .i64 (q3 : Int)]) V := fun V hV => by
        have := (hBr5.below hV).j.look1 (x := (pa, pb)) ⟨by omega, by omega⟩
        rw [hd] at this
        exact this
      have HCL : Hid (∀ V, Below W5.heap.size W5 V → V.cell? ⟨sg, 0, none⟩ = some (.map (some W0.heap.size)) ∧ V.cell? ⟨kb, 0, none⟩ = some (.int .i64 (pa : Int)) ∧ V.cell? ⟨kb, 1, none⟩ = some (.int .i64 (pb : Int))) := fun V hV => by
        have hq := (hV.block kb (by omega)).trans hx5
        exact ⟨by rw [HSGG.out]; exact cell_blk (hBr5.below hV).blk 0, cell_blk hq 0, cell_blk hq 1⟩
      have HLK := hide hlk
      have HW5 := hide hW5; have HKB := hide hkb; have HB5 := hide hb5
      have HWA := hide hw0; have HWB := hide hw1; have HWC := hide hw2
      clear hW5 hkb hBrr hBr5 hb5 hx5 hlk hOr hoq hd hw0 hw1 hw2 hp hjl a0 k0 k1 hs5
      go_upto_region 9 with fail
      rw [HW5.out, HKB.out]
      clear o0 o1
--REG9
      refine wp_region_last (l := [_, _, _, _, _, _, _]) (o := _) grew_ext (factsOf [fun yy _ => yy = .pointer (some ⟨sg, 0, none⟩),
        fun yy _ => yy = .pointer (some ⟨sg, 0, none⟩),
        fun yy _ => yy = .pointer (some ⟨sg, 0, none⟩),
        fun yy _ => yy = .map (some W0.heap.size),
        fun yy _ => yy = .agg #[.int .i64 (pa : Int), .int .i64 (pb : Int)],
        fun yy _ => yy = .agg #[.int .i64 (q1 : Int), .int .i64 (q2 : Int), .int .i64 (q3 : Int)],
        fun yy WW => ∃ q : Nat, yy = .pointer (some ⟨q, 0, none⟩) ∧ W5.heap.size ≤ q ∧ WW.heap[q]? = some (.cells #[.int .i64 0, .int .i64 0, .int .i64 0] 55 (0, 0))]) (by kernel_rfl) (by kernel_rfl) (by kernel_rfl) ?_ ?_
      · refine ⟨?_, ?_, ?_, ?_, ?_, ?_, ?_, trivial⟩
        · refine ⟨fun ρ W3 hk => ?_⟩
          have o0 : ρ (.tmp 0) = .pointer (some ⟨sg, 0, none⟩) := hk.old 0 (by decide)
          exact OpOut.move (.tmp 0) rfl ⟨Below.refl _ _, o0⟩
        · refine ⟨fun ρ W3 hk => ?_⟩
          have h0 := (hk.fact 0 43 (by decide) rfl).pure
          exact OpOut.nilCheck (x := .tmp 43) rfl h0 ⟨Below.refl _ _, rfl⟩
        · refine ⟨fun ρ W3 hk => ?_⟩
          have h1 := (hk.fact 1 44 (by decide) rfl).pure
          exact OpOut.fieldAddr (x := .tmp 44) rfl h1 (by go_simp) ⟨Below.refl _ _, rfl⟩
        · refine ⟨fun ρ W3 hk => ?_⟩
          have h2 := (hk.fact 2 45 (by decide) rfl).pure
          obtain ⟨z0, z1, z2⟩ := HCL.out W3 hk.below
          exact OpOut.load (x := .tmp 45) rfl h2 (by go_simp) ⟨Below.refl _ _, rfl⟩
        · refine ⟨fun ρ W3 hk => ?_⟩
          have o9 : ρ (.tmp 9) = .pointer (some ⟨kb, 0, none⟩) := hk.old 9 (by decide)
          obtain ⟨z0, z1, z2⟩ := HCL.out W3 hk.below
          exact OpOut.load (x := .tmp 9) rfl o9 (by go_simp) ⟨Below.refl _ _, rfl⟩
        · refine ⟨fun ρ W3 hk => ?_⟩
          have h3 := (hk.fact 3 46 (by decide) rfl).pure
          have h4 := (hk.fact 4 47 (by decide) rfl).pure
          exact OpOut.lookupS (x := .tmp 46) (y := .tmp 47) rfl h3 h4 (HLK.out W3 hk.below) ⟨Below.refl _ _, rfl⟩
        · refine ⟨fun ρ W3 hk => ?_⟩
          exact OpOut.allocS rfl (by go_simp) ⟨(Below.refl _ _).alloc (Nat.le_refl _) _, W3.heap.size, rfl, hk.below.size, heap_alloc_new W3 _⟩
      intro vs W8 hb8 hf
      have h5 := (hf 5 (by decide)).pure
      obtain ⟨u6, hu6, q6, h6, hge6, hq6⟩ := hf 6 (by decide)
      clear hf
      simp only [fillL]
      rw [h5]
      rw [h6]
      generalize vs 0 = v0, vs 1 = v1, vs 2 = v2, vs 3 = v3, vs 4 = v4
--END9
      have hq8 := (hu6.block q6 (blk_lt hq6)).trans hq6
      obtain ⟨W9, hW9, hk9, ho9⟩ := store3J hq8 (.int .i64 (q1 : Int)) (.int .i64 (q2 : Int)) (.int .i64 (q3 : Int))
      have d0 := cell_blk hq8 0; have d1 := cell_blk hq8 1; have d2 := cell_blk hq8 2
      have f0 := frozen_blk hq8 0; have f1 := frozen_blk hq8 1; have f2 := frozen_blk hq8 2
      have t0 := cell_blk hk9 0; have t1 := cell_blk hk9 1; have t2 := cell_blk hk9 2
      simp at d0 d1 d2 t0 t1 t2
      have hb59 : Below wr.heap.size wr W9 := (HB5.out.trans (hb8.mono HB5.out.size)).trans (ho9.below (Nat.le_trans HB5.out.size hb8.size) (by simp; have := HB5.out.size; omega))
      have HAR9 := hide (har.out.below hb59)
      have HLO9 : Hid (Below w1.heap.size w W9) := hlo.out.trans (hb59.mono (Nat.le_trans hw.out.size hlo.out.size))
      have HW9 := hide hW9
      have hcv : ∀ (n : Nat) (W : World), n ≤ 4294967295 → (convert 3 66 (.int .i64 (n : Int))).run Tryz.prog W = .ok (.int .u64 (n : Int)) W := fun n W hn => run_convI hn W
      clear hq8 hW9 hk9 ho9 hu6 hq6 hge6 hb8 hb59 HCL HLK har hlo
      go_wp2_with fail
      rw [HW9.out]
      go_wp2_with fail
      go_loopw [11, 12, 56] (fun _ _ c V => ∃ (i : Nat) (bs2 rest2 : List UInt8), c = .int .i64 (i : Int) ∧ i ≤ 3 ∧ Hid (Ar V { s.took cc with bs := bs2 }) ∧ Hid (bs2 = wordsB (WS.take (3 * k + i)) ++ rest2) ∧ Hid (Below w1.heap.size w V)) (fun _ _ c _ => 3 - (intOf c).toNat)
      case atStart => exact ⟨0, bs, rest, rfl, by omega, HAR9, hbs, HLO9⟩
      case round =>
        obtain ⟨i, bs2, rest2, rfl, hi, har2, hbs2, hlo2⟩ := hrel
        by_cases hi3 : i < 3
        · have hil : (i : Int) < 3 := by omega
          obtain ⟨qv, hqv, hq4, hix⟩ : ∃ qv : Nat, WS[3 * k + i]? = some qv ∧ qv ≤ 4294967295 ∧ ∀ W, (Instr.index 110 (.agg #[.int .i64 (q1 : Int), .int .i64 (q2 : Int), .int .i64 (q3 : Int)]) (.int .i64 (i : Int))).run Tryz.prog W = .ok (.int .i64 (qv : Int)) W := by
            match i, hi3 with
            | 0, _ => exact ⟨q1, HWA.out, hd1, fun _ => rfl⟩
            | 1, _ => exact ⟨q2, HWB.out, hd2, fun _ => rfl⟩
            | 2, _ => exact ⟨q3, HWC.out, hd3, fun _ => rfl⟩
          have hcv2 : ∀ W : World, (convert 3 66 (.int .i64 (qv : Int))).run Tryz.prog W = .ok (.int .u64 (qv : Int)) W := fun W => hcv qv W hq4
          have hbl : 4 * (3 * k + i) + 4 ≤ s.size := by omega
          have HP := hide (aput_ok { s.took cc with bs := bs2 } (4 * (3 * k + i)) qv wr har2 hbl (by omega))
          have ead : ((4 * (3 * k + i) : Nat) : Int) = 4 * (3 * (k : Int) + (i : Int)) := by omega
          rw [ead] at HP
          have hnew : Hid (setB bs2 (4 * (3 * k + i)) (rbytesN qv 4) = wordsB (WS.take (3 * k + (i + 1))) ++ rest2.drop 4) := by
            show _ = _
            have hl : (WS.take (3 * k + i)).length = 3 * k + i := by rw [List.length_take, HWL.out]; omega
            have := setB_words (WS.take (3 * k + i)) rest2 qv
            rw [hl] at this
            rw [hbs2.out, this, show 3 * k + (i + 1) = 3 * k + i + 1 by omega, List.take_add_one, hqv]
            rfl
          have HQV := hide hqv
          clear hqv ead hcv
          go_wp2_with fail
          refine HP.out.mono ?_; rintro e w' ⟨rfl, ha', ho'⟩
          have hlo' : Hid (Below w1.heap.size w w') := hlo2.out.trans (ho'.out.below (Nat.le_trans hw.out.size hlo2.out.size) (by obtain ⟨g1, g2, g3, g4⟩ := hN.out.ge; simp; exact g2))
          go_wp2_with fail
          go_roundw
          case rel => exact ⟨i + 1, setB bs2 (4 * (3 * k + i)) (rbytesN qv 4), rest2.drop 4, by go_num, by omega, ha', hnew, hlo'⟩
          case measure => simp [intOf] <;> omega
        · have hi4 : i = 3 := by omega
          subst hi4
          clear hi3
          have hnew : Hid (bs2 = wordsB (WS.take (3 * (k + 1))) ++ rest2) := hbs2
          go_wp2_with fail
          go_roundw
          case rel => exact ⟨k + 1, bs2, rest2, by go_num, by omega, har2, hnew, hlo2⟩
          case measure => simp [intOf] <;> omega
    · have hkn : k = ord.length := by omega
      subst hkn
      have hle : ¬ ((ord.length : Int) < (ord.length : Int)) := by omega
      have hb2 : Hid (bs = wordsB WS ++ rest) := by
        have := hbs.out
        rw [List.take_of_length_le (by rw [HWL.out]; exact Nat.le_refl _)] at this
        exact this
      clear hbs hlt
      go_wp2_with fail
      go_ret2
      exact ⟨rfl, bs, rest, har, hb2, hlo⟩
end
end
end Go.Proofs.YtomppgohoplemaaGreat
