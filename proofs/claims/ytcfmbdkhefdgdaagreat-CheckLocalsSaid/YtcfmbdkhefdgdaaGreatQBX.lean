import Derived.Test.YtcfmbdkhefdgdaaGreatQBR
import Derived.Test.YtcfmbdkhefdgdaaGreatQBS
import Derived.Test.YtcfmbdkhefdgdaaGreatQBU
import Derived.Test.YtcfmbdkhefdgdaaGreatQBW
set_option linter.unusedVariables false
namespace Go.Proofs.YtcfmbdkhefdgdaaGreat
open Go.RowKit
structure LawIn (W : World) (xg : Nat) (m : MoL) (ml : Int) : Prop where
  cells : ∀ V, Below W.heap.size W V → (V.cell? ⟨xg, 0, none⟩ = some (.slice m.sigs.at_ m.sigs.l.length m.sigs.cap) ∧ V.cell? ⟨xg, 1, none⟩ = some (.slice m.imps.at_ m.imps.l.length m.imps.cap) ∧ V.cell? ⟨xg, 2, none⟩ = some (.slice m.funcs.at_ m.funcs.l.length m.funcs.cap) ∧ V.cell? ⟨xg, 3, none⟩ = some (.int .i64 m.table) ∧ V.cell? ⟨xg, 4, none⟩ = some (.slice m.mems.at_ m.mems.l.length m.mems.cap) ∧ V.cell? ⟨xg, 5, none⟩ = some (.slice m.gls.at_ m.gls.l.length m.gls.cap) ∧ V.cell? ⟨xg, 6, none⟩ = some (.slice m.exs.at_ m.exs.l.length m.exs.cap) ∧ V.cell? ⟨xg, 7, none⟩ = some (.int .i64 m.start) ∧ V.cell? ⟨xg, 8, none⟩ = some (.slice m.els.at_ m.els.l.length m.els.cap) ∧ V.cell? ⟨xg, 9, none⟩ = some (.slice m.das.at_ m.das.l.length m.das.cap)) ∧ MoIn V m ∧ V.cell? ⟨0, 0, none⟩ = some (.int .i64 ml)
theorem lawIn_of {w : World} {m : MoL} {ml : Int} (h : MoIn w m) (hml : w.cell? ⟨0, 0, none⟩ = some (.int .i64 ml)) : ∃ W xg, w.alloc (.cells m.cs.toArray 31) = W ∧ w.heap.size = xg ∧ Below w.heap.size w W ∧ LawIn W xg m ml := by
  obtain ⟨W, hW, hb, hx, _⟩ := box_new w m.cs.toArray 31
  refine ⟨W, _, hW, rfl, hb, ⟨fun V hV => ?_⟩⟩
  have hk := (hV.block _ (blk_lt hx)).trans hx
  have hwV : Below w.heap.size w V := hb.trans (hV.mono hb.size)
  exact ⟨⟨cell_blk hk 0, cell_blk hk 1, cell_blk hk 2, cell_blk hk 3, cell_blk hk 4, cell_blk hk 5, cell_blk hk 6, cell_blk hk 7, cell_blk hk 8, cell_blk hk 9⟩, h.below hwV, (hwV.cell (World.block_lt_of_cell? w _ hml)).trans hml⟩
theorem g_func {m m2 : MoL} (hg : m2.g = m.g) {k : Nat} {y : FuL} (hy : m.funcs.l[k]? = some y) : ∃ y2, m2.funcs.l[k]? = some y2 ∧ y2.g = y.g := by
  have h1 : (m2.funcs.l.map FuL.g)[k]? = (m.funcs.l.map FuL.g)[k]? := congrArg (fun q : Mo => q.funcs[k]?) hg
  rw [List.getElem?_map, List.getElem?_map, hy] at h1
  cases h2 : m2.funcs.l[k]? with
  | none => rw [h2] at h1; cases h1
  | some y2 => rw [h2] at h1; injection h1 with h1; exact ⟨y2, rfl, h1⟩
theorem g_flen {m m2 : MoL} (hg : m2.g = m.g) : m2.funcs.l.length = m.funcs.l.length := by
  have := congrArg (fun q : Mo => q.funcs.length) hg
  simpa [MoL.g] using this
theorem g_ilen {m m2 : MoL} (hg : m2.g = m.g) : m2.imps.l.length = m.imps.l.length := by
  have := congrArg (fun q : Mo => q.imps.length) hg
  simpa [MoL.g] using this
theorem locals_to {g : Nat} {m m2 : MoL} {k : Nat} {y : FuL} {v : EvL} {w : World} (hM : Hid (MoAt w g m2)) (hg : Hid (m2.g = m.g)) (hs : Hid (MoSm m2)) (hu : Hid ((unfitP m.g).2 = 0)) (hy : Hid (m.funcs.l[k]? = some y)) (hv : Hid (EvOf m k y v)) :
    Calls Tryz.prog 25 #[.pointer (some ⟨g, 0, none⟩), .int .i64 (k : Int)] w (LocP v.loc.l true w) := by
  obtain ⟨y2, hy2, hyg⟩ := g_func hg.out hy.out
  have hl2 := lt_some hy2
  have hu2 : (unfitP m2.g).2 = 0 := by rw [hg.out]; exact hu.out
  obtain ⟨s, hs1, hs2, hs3⟩ := fit_sig hu2 (f := m2.imps.l.length + k) (by omega)
  have h := locals_in_any g m2 k y2 w hM (hide hs.out.sz) hy2 (by have := (hs.out.func y2 (List.mem_of_getElem? hy2)).loc; omega)
  rw [hs1] at h
  simp only [sP, Option.isSome_some] at h
  have e1 : s.p.l ++ y2.bd.loc.l = v.loc.l := by
    rw [hv.out.loc]
    have e2 : y2.bd.loc.l = y.bd.loc.l := congrArg (fun q : MFu => q.bd.loc) hyg
    have e3 : s.g = v.own.g := by rw [← hs3, hg.out, g_ilen hg.out]; exact hv.out.own.2
    have e4 : s.p.l = v.own.p.l := congrArg MSg.p e3
    rw [e2, e4]
  rw [e1] at h
  exact h
theorem ev_exists {m : MoL} {k : Nat} {y : FuL} (hu : (unfitP m.g).2 = 0) (hy : m.funcs.l[k]? = some y) : ∃ v : EvL, EvOf m k y v := by
  have hk := lt_some hy
  obtain ⟨n, s, hn, hs, hso⟩ := fit_num hu (f := m.imps.l.length + k) (by omega)
  refine ⟨⟨⟨none, 0, fnRow m (m.imps.l.length + m.funcs.l.length)⟩, ⟨none, 0, m.sigs.l⟩, ⟨none, 0, m.mems.l.map (fun x => x.wide)⟩, ⟨none, 0, m.gls.l.map (fun x => x.t)⟩, ⟨none, 0, m.gls.l.map (fun x => x.mu)⟩, decide (0 ≤ m.table), s, ⟨none, 0, s.p.l ++ y.bd.loc.l⟩⟩, fnRow_len _ _, fun i hi => ?_, rfl, rfl, rfl, rfl, rfl, ⟨List.mem_of_getElem? hs, hso⟩, rfl⟩
  obtain ⟨n2, s2, k1, k2, k3⟩ := fit_num hu (f := i) hi
  have : sgAt m i = s2 := by unfold sgAt; rw [k1, Int.toNat_natCast]; exact getD_some k2
  refine ⟨s2, ?_, List.mem_of_getElem? k2, k3⟩
  show (fnRow m _)[i]? = _
  unfold fnRow
  rw [List.getElem?_map, List.getElem?_range hi]
  simp [this]
theorem ev_loc {m : MoL} {k : Nat} {y : FuL} {v v0 : EvL} (h : EvOf m k y v) (h0 : EvOf m k y v0) : v.loc.l = v0.loc.l := by
  rw [h.loc, h0.loc]
  have e3 : v.own.g = v0.own.g := by rw [← h.own.2, ← h0.own.2]
  rw [show v.own.p.l = v0.own.p.l from congrArg MSg.p e3]
set_option maxRecDepth 100000 in
set_option maxHeartbeats 6400000 in
theorem checklocals_any (m : MoL) (f n : Int) (w : World) (ml : Int) (h : Hid (MoIn w m)) (hr : Hid (MoRe m)) (hml : Hid (w.cell? ⟨0, 0, none⟩ = some (.int .i64 ml))) :
    Calls Tryz.prog 3 #[.agg m.cs.toArray, .int .i64 f, .int .i64 n] w fun e w' => e = .returned (.bool true) ∧ Hid (Below w.heap.size w w') := by
  obtain ⟨W, xg, hW, hxg, hb, hin⟩ := lawIn_of h.out hml.out
  have HIN := hide hin; have HW := hide hW; have HXG := hide hxg; have HB := hide hb
  clear hW hxg hb hin
  have HG : Hid (∀ V, Below W.heap.size W V → Calls Tryz.prog 7 #[.agg #[.slice m.sigs.at_ m.sigs.l.length m.sigs.cap, .slice m.imps.at_ m.imps.l.length m.imps.cap, .slice m.funcs.at_ m.funcs.l.length m.funcs.cap, .int .i64 m.table, .slice m.mems.at_ m.mems.l.length m.mems.cap, .slice m.gls.at_ m.gls.l.length m.gls.cap, .slice m.exs.at_ m.exs.l.length m.exs.cap, .int .i64 m.start, .slice m.els.at_ m.els.l.length m.els.cap, .slice m.das.at_ m.das.l.length m.das.cap]] V (GreatM m V)) := fun V hV => lgreat_any m V (hide (HIN.out.cells V hV).2.1) hr
  have HA : Hid (∀ V, Below W.heap.size W V → Calls Tryz.prog 8 #[] V fun e w' => e = .returned (.bool true) ∧ Hid (Below V.heap.size V w')) := fun V hV => awake16 V ml (hide (HIN.out.cells V hV).2.2)
  unfold MoL.cs Sl.val at HW ⊢
  go_enter Tryz.func3, Tryz.ntmps3
  go_upto_region 1 with fail
  rw [HW.out, HXG.out]
  obtain ⟨⟨c0, c1, c2, c3, c4, c5, c6, c7, c8, c9⟩, _, _⟩ := HIN.out.cells W (Below.refl _ _)
  go_wp2_with fail
  refine (HG.out W (Below.refl _ _)).mono ?_; rintro e w1 ⟨x, rfl, hgs, hb1⟩
  clear c0 c1 c2 c3 c4 c5 c6 c7 c8 c9
  have hx0 := hgs.out.1
  by_cases hx : 0 < x
  · have hgt : decide ((0 : Int) < x) = true := decide_eq_true hx
    clear hx0
    go_wp2_with fail
    refine (HA.out w1 hb1.out).mono ?_; rintro e w2 ⟨rfl, hb2⟩
    go_wp2_with fail
    go_ret
    exact ⟨rfl, HB.out.trans ((hb1.out.trans (hb2.out.mono hb1.out.size)).mono HB.out.size)⟩
  have hxz : x = 0 := by omega
  subst hxz
  have HSM : Hid (MoSm m) := hgs.out.2.2 rfl
  clear hx hx0 hgs HG
  obtain ⟨⟨c0, c1, c2, c3, c4, c5, c6, c7, c8, c9⟩, _, _⟩ := HIN.out.cells w1 hb1.out
  by_cases h12 : 12 < m.funcs.l.length
  · have hgt : (12 : Int) < (m.funcs.l.length : Int) := by omega
    clear h12
    go_wp2_with fail
    refine (HA.out w1 hb1.out).mono ?_; rintro e w2 ⟨rfl, hb2⟩
    go_wp2_with fail
    go_ret
    exact ⟨rfl, HB.out.trans ((hb1.out.trans (hb2.out.mono hb1.out.size)).mono HB.out.size)⟩
  have hgt : ¬ ((12 : Int) < (m.funcs.l.length : Int)) := by omega
  have h12b : m.funcs.l.length ≤ 12 := by omega
  clear h12
  go_wp2_with fail
  refine (HA.out w1 hb1.out).mono ?_; rintro e w2 ⟨rfl, hb2⟩
  have hB2 := hide (hb1.out.trans (hb2.out.mono hb1.out.size))
  clear c0 c1 c2 c3 c4 c5 c6 c7 c8 c9 hb1 hb2 HA
  obtain ⟨⟨c0, c1, c2, c3, c4, c5, c6, c7, c8, c9⟩, hin2, _⟩ := HIN.out.cells w2 hB2.out
  have HU := hide (lunfit_any m w2 (hide hin2) HSM)
  unfold MoL.cs Sl.val at HU
  clear hin2
  go_wp2_with fail
  refine HU.out.mono ?_; rintro e w3 ⟨rfl, hb3⟩
  have hB3 := hide (hB2.out.trans (hb3.out.mono hB2.out.size))
  clear c0 c1 c2 c3 c4 c5 c6 c7 c8 c9 HU hb3
  obtain ⟨un, hun⟩ : ∃ un, (unfitP m.g).2 = un := ⟨_, rfl⟩
  rw [hun]
  have HUN := hide hun
  clear hun
  by_cases hu : un = 0
  · subst hu
    have HUZ : Hid ((unfitP m.g).2 = 0) := HUN
    obtain ⟨⟨c0, c1, c2, c3, c4, c5, c6, c7, c8, c9⟩, hin3, _⟩ := HIN.out.cells w3 hB3.out
    have HTO := hide (fun (V : World) (hV : Below W.heap.size W V) => lto_any m V (hide (HIN.out.cells V hV).2.1) HSM)
    unfold MoL.cs Sl.val at HTO
    clear hin3
    by_cases hf0 : 0 ≤ f ∧ f < (m.funcs.l.length : Int)
    · obtain ⟨k, rfl⟩ : ∃ k : Nat, f = (k : Int) := ⟨f.toNat, by omega⟩
      have hk : k < m.funcs.l.length := by omega
      obtain ⟨y, hy⟩ : ∃ y, m.funcs.l[k]? = some y := ⟨_, List.getElem?_eq_getElem hk⟩
      have HY := hide hy
      have hk1 : ¬ ((m.funcs.l.length : Int) ≤ (k : Int)) := by omega
      have hk2 : ¬ ((k : Int) < 0) := by omega
      have HEN := hide (fun (V : World) (hV : Below W.heap.size W V) => lenv_any m k y V (hide (HIN.out.cells V hV).2.1) HSM HUZ hy)
      unfold MoL.cs Sl.val at HEN
      obtain ⟨v0, hv0⟩ : ∃ v : EvL, EvOf m k y v := ev_exists HUZ.out hy
      have HV0 := hide hv0
      clear hf0 hy hv0
      have hlv : v0.loc.l.length ≤ 100000 := by
        have e1 := congrArg List.length HV0.out.loc
        rw [List.length_append] at e1
        have := HSM.out.sig _ HV0.out.own.1
        have := (HSM.out.func y (List.mem_of_getElem? HY.out)).loc
        omega
      by_cases hn0 : 0 ≤ n ∧ n < (v0.loc.l.length : Int)
      · obtain ⟨j, rfl⟩ : ∃ j : Nat, n = (j : Int) := ⟨n.toNat, by omega⟩
        obtain ⟨t, ht⟩ : ∃ t, v0.loc.l[j]? = some t := ⟨_, List.getElem?_eq_getElem (by omega)⟩
        have HT := hide ht
        have hj1 : ¬ ((v0.loc.l.length : Int) ≤ (j : Int)) := by omega
        have hj2 : ¬ ((j : Int) < 0) := by omega
        have hj3 : (j : Int) < (v0.loc.l.length : Int) := by omega
        clear ht hn0
        go_wp2_with fail
        refine (HTO.out w3 hB3.out).mono ?_; rintro e w4 ⟨g1, m1, rfl, hM1, hg1, hs1, hb4⟩
        have hB4 := hide (hB3.out.trans (hb4.out.mono hB3.out.size))
        have HL := hide (local_some_any (.pointer (some ⟨g1, 0, none⟩)) (k : Int) j w4 v0.loc.l t (hide (locals_to hM1 hg1 hs1 HUZ HY HV0)) hlv HT.out)
        clear c0 c1 c2 c3 c4 c5 c6 c7 c8 c9 hb4
        go_wp2_with fail
        refine HL.out.mono ?_; rintro e w5 ⟨rfl, hb5⟩
        have hB5 := hide (hB4.out.trans (hb5.out.mono hB4.out.size))
        clear HL hb5 hM1 hg1 hs1
        obtain ⟨⟨c0, c1, c2, c3, c4, c5, c6, c7, c8, c9⟩, _, _⟩ := HIN.out.cells w5 hB5.out
        go_wp2_with fail
        refine (HEN.out w5 hB5.out).mono ?_; rintro e w6 ⟨v, rfl, hvi, hvo, hb6⟩
        have hB6 := hide (hB5.out.trans (hb6.out.mono hB5.out.size))
        have hvl : v.loc.l = v0.loc.l := ev_loc hvo.out HV0.out
        have hfl : ∀ V : World, Sem.run Tryz.prog (Instr.field 48 (.agg v.cs.toArray) 7) V = .ok (.slice v.loc.at_ v.loc.l.length v.loc.cap) V := fun _ => rfl
        rw [hvl] at hfl
        have HVL := hide hvl
        clear c0 c1 c2 c3 c4 c5 c6 c7 c8 c9 hb6 hvl
        obtain ⟨⟨c0, c1, c2, c3, c4, c5, c6, c7, c8, c9⟩, _, _⟩ := HIN.out.cells w6 hB6.out
        go_wp2_with fail
        refine (HTO.out w6 hB6.out).mono ?_; rintro e w7 ⟨g2, m2, rfl, hM2, hg2, hs2, hb7⟩
        have hB7 := hide (hB6.out.trans (hb7.out.mono hB6.out.size))
        have HLL := hide (locals_len_any (.pointer (some ⟨g2, 0, none⟩)) (k : Int) w7 v0.loc.l true (hide (locals_to hM2 hg2 hs2 HUZ HY HV0)))
        have hrow7 := hide (hvi.out.loc.below hb7.out)
        clear c0 c1 c2 c3 c4 c5 c6 c7 c8 c9 hb7 hM2 hg2 hs2
        go_wp2_with fail
        refine HLL.out.mono ?_; rintro e w8 ⟨rfl, hb8⟩
        have hrow8 := hide (hrow7.out.below hb8.out)
        have hfin := hide (HB.out.trans ((hB7.out.trans (hb8.out.mono hB7.out.size)).mono HB.out.size))
        obtain ⟨al, hal, _, q0, _⟩ := hrow8.out.at_ (fun _ => rfl) (show v.loc.l[j]? = some t by rw [HVL.out]; exact HT.out)
        have u0 : w8.cell? (al.add (j * 1)) = some (.int .u8 (t.toNat : Int)) := q0 _ rfl (by omega)
        rw [Nat.mul_one] at u0
        rw [hal]
        clear q0 hal HLL hb8
        go_wp2_with fail
        go_ret
        exact ⟨rfl, hfin⟩
      · have hno : n < 0 ∨ (v0.loc.l.length : Int) ≤ n := by omega
        go_wp2_with fail
        refine (HTO.out w3 hB3.out).mono ?_; rintro e w4 ⟨g1, m1, rfl, hM1, hg1, hs1, hb4⟩
        have hB4 := hide (hB3.out.trans (hb4.out.mono hB3.out.size))
        have HL := hide (local_none_any (.pointer (some ⟨g1, 0, none⟩)) (k : Int) n w4 v0.loc.l true (hide (locals_to hM1 hg1 hs1 HUZ HY HV0)) hlv (.inr hno))
        clear c0 c1 c2 c3 c4 c5 c6 c7 c8 c9 hb4
        go_wp2_with fail
        refine HL.out.mono ?_; rintro e w5 ⟨rfl, hb5⟩
        have hB5 := hide (hB4.out.trans (hb5.out.mono hB4.out.size))
        clear HL hb5 hM1 hg1 hs1
        obtain ⟨⟨c0, c1, c2, c3, c4, c5, c6, c7, c8, c9⟩, _, _⟩ := HIN.out.cells w5 hB5.out
        go_wp2_with fail
        refine (HEN.out w5 hB5.out).mono ?_; rintro e w6 ⟨v, rfl, hvi, hvo, hb6⟩
        have hB6 := hide (hB5.out.trans (hb6.out.mono hB5.out.size))
        have hvl : v.loc.l = v0.loc.l := ev_loc hvo.out HV0.out
        have hfl : ∀ V : World, Sem.run Tryz.prog (Instr.field 48 (.agg v.cs.toArray) 7) V = .ok (.slice v.loc.at_ v.loc.l.length v.loc.cap) V := fun _ => rfl
        rw [hvl] at hfl
        clear c0 c1 c2 c3 c4 c5 c6 c7 c8 c9 hb6 hvl
        obtain ⟨⟨c0, c1, c2, c3, c4, c5, c6, c7, c8, c9⟩, _, _⟩ := HIN.out.cells w6 hB6.out
        go_wp2_with fail
        refine (HTO.out w6 hB6.out).mono ?_; rintro e w7 ⟨g2, m2, rfl, hM2, hg2, hs2, hb7⟩
        have hB7 := hide (hB6.out.trans (hb7.out.mono hB6.out.size))
        have HLL := hide (locals_len_any (.pointer (some ⟨g2, 0, none⟩)) (k : Int) w7 v0.loc.l true (hide (locals_to hM2 hg2 hs2 HUZ HY HV0)))
        clear c0 c1 c2 c3 c4 c5 c6 c7 c8 c9 hb7 hM2 hg2 hs2
        go_wp2_with fail
        refine HLL.out.mono ?_; rintro e w8 ⟨rfl, hb8⟩
        have hfin := hide (HB.out.trans ((hB7.out.trans (hb8.out.mono hB7.out.size)).mono HB.out.size))
        clear HLL hb8 hn0
        by_cases hn1 : n < 0
        · clear hno
          go_wp2_with fail
          go_ret
          exact ⟨rfl, hfin⟩
        · have hn2 : (v0.loc.l.length : Int) ≤ n := by omega
          clear hno
          go_wp2_with fail
          go_ret
          exact ⟨rfl, hfin⟩
    · have hno : f < 0 ∨ (m.funcs.l.length : Int) ≤ f := by omega
      clear hf0
      go_wp2_with fail
      refine (HTO.out w3 hB3.out).mono ?_; rintro e w4 ⟨g1, m1, rfl, hM1, hg1, hs1, hb4⟩
      have hB4 := hide (hB3.out.trans (hb4.out.mono hB3.out.size))
      have HL := hide (local_none_any (.pointer (some ⟨g1, 0, none⟩)) f n w4 [] false (hide (locals_out_any g1 m1 f w4 hM1 (by rw [g_flen hg1.out]; exact hno))) (by simp) (.inl rfl))
      clear c0 c1 c2 c3 c4 c5 c6 c7 c8 c9 hb4
      go_wp2_with fail
      refine HL.out.mono ?_; rintro e w5 ⟨rfl, hb5⟩
      have hB5 := hide (hB4.out.trans (hb5.out.mono hB4.out.size))
      clear HL hb5 hM1 hg1 hs1
      obtain ⟨⟨c0, c1, c2, c3, c4, c5, c6, c7, c8, c9⟩, _, _⟩ := HIN.out.cells w5 hB5.out
      have HNO := hide hno
      by_cases hf1 : f < 0
      · clear hno
        go_wp2_with fail
        refine (HTO.out w5 hB5.out).mono ?_; rintro e w6 ⟨g2, m2, rfl, hM2, hg2, hs2, hb6⟩
        have hB6 := hide (hB5.out.trans (hb6.out.mono hB5.out.size))
        have HLL := hide (locals_len_any (.pointer (some ⟨g2, 0, none⟩)) f w6 [] false (hide (locals_out_any g2 m2 f w6 hM2 (by rw [g_flen hg2.out]; exact HNO.out))))
        clear c0 c1 c2 c3 c4 c5 c6 c7 c8 c9 hb6 hM2 hg2 hs2
        go_wp2_with fail
        refine HLL.out.mono ?_; rintro e w7 ⟨rfl, hb7⟩
        have hfin := hide (HB.out.trans ((hB6.out.trans (hb7.out.mono hB6.out.size)).mono HB.out.size))
        go_wp2_with fail
        go_ret
        exact ⟨rfl, hfin⟩
      · have hf2 : (m.funcs.l.length : Int) ≤ f := by omega
        clear hno
        go_wp2_with fail
        refine (HTO.out w5 hB5.out).mono ?_; rintro e w6 ⟨g2, m2, rfl, hM2, hg2, hs2, hb6⟩
        have hB6 := hide (hB5.out.trans (hb6.out.mono hB5.out.size))
        have HLL := hide (locals_len_any (.pointer (some ⟨g2, 0, none⟩)) f w6 [] false (hide (locals_out_any g2 m2 f w6 hM2 (by rw [g_flen hg2.out]; exact HNO.out))))
        clear c0 c1 c2 c3 c4 c5 c6 c7 c8 c9 hb6 hM2 hg2 hs2
        go_wp2_with fail
        refine HLL.out.mono ?_; rintro e w7 ⟨rfl, hb7⟩
        have hfin := hide (HB.out.trans ((hB6.out.trans (hb7.out.mono hB6.out.size)).mono HB.out.size))
        go_wp2_with fail
        go_ret
        exact ⟨rfl, hfin⟩
  · have hne : ((un : Int) != 0) = true := by simp; omega
    clear hu
    go_wp2_with fail
    go_ret
    exact ⟨rfl, HB.out.trans (hB3.out.mono HB.out.size)⟩
theorem CheckLocals_o0 {H : Type} {enc : TypeId × Value → H} {w : World} : Opens enc Tryz.prog w 31 moD (moOk w) := mo_opens
theorem CheckLocals_walk (s0 : MoA) (f n : Int) (w : World) (h : moOk w s0) (hf : (Lit.int .i64 f).wf = true) (hn : (Lit.int .i64 n).wf = true) (hP : ∃ ml, w.cell? ⟨0, 0, none⟩ = some (.int .i64 ml)) :
    Calls Tryz.prog 3 #[.agg (moD s0).toArray, .int .i64 f, .int .i64 n] w fun e w' => e = .returned (.bool true) ∧ Below w.heap.size w w' := by
  obtain ⟨ml, hml⟩ := hP
  rw [← moL_cs]
  exact checklocals_any (moL s0) f n w ml (mo_in h) (mo_re h) hml
end Go.Proofs.YtcfmbdkhefdgdaaGreat
