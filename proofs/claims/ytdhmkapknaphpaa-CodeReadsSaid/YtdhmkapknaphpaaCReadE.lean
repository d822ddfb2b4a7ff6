/-
  code: Read: contract.
-/
import Derived.Test.YtdhmkapknaphpaaCReadD
namespace Go.Proofs.Ytdhmkapknaphpaa
open Go.RowKit
set_option linter.unusedVariables false

/-- what Read leaves -/
structure ReadC (w : World) (res : Nat × Nat × List UInt8 × List DI) (en : Ending) (w' : World) : Prop where
  out : ∃ (lv iv vs vo : Value) (ys : List (Value × DI)), en = .returned (.tuple #[.agg #[lv, iv], .int .i64 (res.2.1 : Int), .int .i64 (res.1 : Int)]) ∧ Hid (Below w.heap.size w w') ∧
    Hid (w'.ownsRow w.heap.size 78 1 lv res.2.2.1.length (res.2.2.1.map B)) ∧ Hid (IR w' w.heap.size 27 vs vo iv ys) ∧ Hid (dis ys = res.2.2.2) ∧ ys.length ≤ 1000 ∧ Hid (∀ y ∈ ys, y.2.l.length ≤ 100) ∧ res.2.2.1.length ≤ 50

/-- how far the runs have been read -/
structure RX (wr : World) (rb k q0 : Nat) (bs : List UInt8) (lv : Value) (at' : Nat) (bad' e' r' : Int) (RES : Nat × Nat × List UInt8) : Prop where
  out : (e' = 0 ∧ 0 ≤ r' ∧ r' ≤ 20 + 1340 * (at' : Int) ∧ ∃ locs : List UInt8, Hid (wr.ownsRow (rb + 1) 78 1 lv locs.length (locs.map B)) ∧ locs.length ≤ 50 ∧ Hid (runsL bs (q0 - k) at' locs = RES)) ∨ (e' ≠ 0 ∧ (RES.1 : Int) = e' ∧ bad' = (RES.2.1 : Int))
theorem runsL_step {bs : List UInt8} {k at_ : Nat} {locs : List UInt8} (p : Nat × Nat × Nat × UInt8 × Nat) (hp : runL (bs.drop at_) at_ locs.length = p) : runsL bs (k + 1) at_ locs = if p.1 ≠ 0 then (p.1, p.2.1, []) else runsL bs k (at_ + p.2.2.1) (locs ++ List.replicate p.2.2.2.2 p.2.2.2.1) := by
  subst hp
  rw [runsL]
theorem runL_room {l : List UInt8} {at_ n : Nat} (hn : n ≤ 50) (h : (runL l at_ n).1 = 0) : n + (runL l at_ n).2.2.2.2 ≤ 50 ∧ 2 ≤ (runL l at_ n).2.2.1 := by
  have hc := unsigned_cases l 32
  unfold runL at h ⊢
  simp only at h ⊢
  by_cases h1 : (unsignedL l 32).2.2 = 0
  · rw [if_neg (fun x => x h1)] at h ⊢
    cases hd : l.drop (unsignedL l 32).2.1 with
    | nil => rw [hd] at h; simp at h
    | cons t rest =>
      rw [hd] at h
      simp only at h ⊢
      by_cases h2 : t.toNat ≠ 126 ∧ t.toNat ≠ 127
      · rw [if_pos h2] at h; simp at h
      · rw [if_neg h2] at h ⊢
        by_cases h3 : 50 - n < (unsignedL l 32).1
        · rw [if_pos h3] at h; simp at h
        · rw [if_neg h3]
          simp only
          omega
  · rw [if_pos h1] at h
    exact absurd h h1

/-- the result stored -/
theorem body_put {w : World} {gb : Nat} {a b : Value} (h : w.heap[gb]? = some (.cells #[a, b] 34 (0, 0))) (v0 v1 : Value) :
    ∃ W : World, (w.setCell ⟨gb, 0, none⟩ v0).setCell ⟨gb, 1, none⟩ v1 = W ∧ Only [gb] w W ∧ W.heap[gb]? = some (.cells #[v0, v1] 34 (0, 0)) := by
  refine ⟨_, rfl, (Only.setCell w (p := ⟨gb, 0, none⟩) (by simp) v0).trans (Only.setCell _ (p := ⟨gb, 1, none⟩) (by simp) v1), ?_⟩
  rw [setCell_blk (setCell_blk h 0 _) 1 _]
  rfl
theorem readR_num {bs : List UInt8} {q0 q1 q2 : Nat} (h : unsignedL bs 32 = (q0, q1, q2)) (hz : q2 ≠ 0) : readR bs = (q2, 0, [], []) := by
  unfold readR
  simp only [h]
  rw [if_pos hz]
theorem readR_runs {bs : List UInt8} {q0 q1 : Nat} {R : Nat × Nat × List UInt8} (h : unsignedL bs 32 = (q0, q1, 0)) (hr : runsL bs q0 q1 [] = R) (hz : R.1 ≠ 0) : readR bs = (R.1, R.2.1, [], []) := by
  unfold readR
  simp only [h, hr]
  rw [if_neg (fun x => x rfl), if_pos hz]
theorem readR_ins {bs : List UInt8} {q0 q1 : Nat} {R : Nat × Nat × List UInt8} {I : Nat × Nat × List DI} (h : unsignedL bs 32 = (q0, q1, 0)) (hr : runsL bs q0 q1 [] = R) (hz : R.1 = 0) (hi : insL bs (bs.length + 1) R.2.1 initN [] = I) : readR bs = if I.1 ≠ 0 then (I.1, I.2.1, [], []) else (0, 0, R.2.2, I.2.2) := by
  unfold readR
  simp only [h, hr]
  rw [if_neg (fun x => x rfl), if_neg (fun x => x hz), hi]

set_option maxRecDepth 100000 in
set_option maxHeartbeats 6400000 in
theorem cread_any (A : Option Addr) (c Bk : Nat) (bs : List UInt8) (w : World) (hb : Hid (Reads w Bk 1 A bs.length (bs.map B))) (hB : Bk ≤ w.heap.size) (hl : bs.length ≤ 400) :
    Calls Try.prog 7 #[.slice A bs.length c] w (ReadC w (readR bs)) := by
  obtain ⟨gb, hgb⟩ : ∃ gb, w.heap.size = gb := ⟨_, rfl⟩
  obtain ⟨W, hW⟩ : ∃ W, w.alloc (.cells #[.slice none 0 0, .slice none 0 0] 34) = W := ⟨_, rfl⟩
  have hbW : Below gb w W := by rw [← hW, ← hgb]; exact (Below.refl _ _).alloc (Nat.le_refl _) _
  have hblk : Hid (W.heap[gb]? = some (.cells #[.slice none 0 0, .slice none 0 0] 34 (0, 0))) := by show _ = _; rw [← hW, ← hgb]; exact heap_alloc_new w _
  have HNW := hide (new_any A c Bk bs W (hide (hb.out.below (hbW.mono (by omega)))) (by omega))
  have hszW : gb < W.heap.size := blk_lt hblk.out
  have HGB := hide hgb; have HW := hide hW; have HBW := hide hbW
  clear hgb hW hbW
  have hlb : decide ((4096 : Int) < (bs.length : Int)) = false := by simp; omega
  go_enter Try.func7, Try.ntmps7
  go_upto_region 1 with fail
  rw [HW.out, HGB.out]
  go_wp2_with fail
  refine HNW.out.mono ?_; rintro ee w1 ⟨f, A1, c1, rfl, hf, k1, k2⟩
  have HCU := hide (cursor_any f c1 A1 bs 0 (-1) 0 (bs.length : Int) w1 k1 (by omega) (by omega) (by omega))
  go_wp2_with fail
  refine HCU.out.mono ?_; rintro ee w2 ⟨g, rfl, hg, k3, k4⟩
  obtain ⟨rb, hrb⟩ : ∃ rb, w2.heap.size = rb := ⟨_, rfl⟩
  obtain ⟨W2, hW2⟩ : ∃ W2, w2.alloc (.cells #[.pointer (some ⟨g, 0, none⟩), .slice none 0 0, .slice none 0 0, .int .i64 0, .int .i64 0] 66) = W2 := ⟨_, rfl⟩
  have hb2 : Below rb w2 W2 := by rw [← hW2, ← hrb]; exact (Below.refl _ _).alloc (Nat.le_refl _) _
  have hfl := blk_lt k1.out.blk
  have hgl := blk_lt k3.out.blk
  have hcr0 : Hid (CR W2 rb g f c1 A1 bs 0 0 (.slice none 0 0) (.slice none 0 0) 0 0) := ⟨by rw [← hW2, ← hrb]; exact heap_alloc_new w2 _, (k1.out.below k4.out hfl).below hb2 (by have := k4.out.size; omega), k3.out.below hb2 (by omega), by omega⟩
  have hblk2 : Hid (W2.heap[gb]? = some (.cells #[.slice none 0 0, .slice none 0 0] 34 (0, 0))) := (hb2.block gb (by have := k2.out.size; have := k4.out.size; omega)).trans ((k4.out.block gb (by have := k2.out.size; omega)).trans ((k2.out.block gb hszW).trans hblk.out))
  have hgf : gb < f := by omega
  have hbel : Hid (Below gb w W2) := by
    have h1 : Below gb w w1 := HBW.out.trans (k2.out.mono (by omega))
    exact (h1.trans (k4.out.mono (by have := k2.out.size; omega))).trans (hb2.mono (by have := k2.out.size; have := k4.out.size; omega))
  have HRB := hide hrb; have HW2 := hide hW2
  clear hrb hW2 hb2 hf hg
  have HNU := hide (rnumber_any rb g f c1 A1 bs 0 0 _ _ 0 W2 hcr0 (by omega) (by omega) (by omega) (by omega))
  rw [List.drop_zero] at HNU
  obtain ⟨q0, q1, q2, hq⟩ : ∃ q0 q1 q2, unsignedL bs 32 = (q0, q1, q2) := ⟨_, _, _, rfl⟩
  rw [hq] at HNU
  have HQ := hide hq; clear hq
  go_upto_region 6 with fail
  rw [HW2.out, HRB.out]
  go_wp2_with fail
  refine HNU.out.mono ?_; rintro ee w3 ⟨r3, at3, v3, bad3, rfl, m1, m2, m3, m4, m5, m6, m7, m8⟩
  simp only at m1 m8
  have z3 := hide ((m2.out.block gb (by have := blk_lt hblk2.out; omega) (by have := hcr0.out.lt; have := hcr0.out.cu.lt; simp; omega)).trans hblk2.out)
  have hfg := hcr0.out.cu.lt
  have hgrb := hcr0.out.lt
  have hbel3 : Hid (Below gb w w3) := hbel.out.trans (m2.out.below (by have := blk_lt hblk2.out; omega) (by simp; omega))
  obtain ⟨RES, hRES⟩ : ∃ RES, (if q2 ≠ 0 then (q2, 0, []) else runsL bs q0 q1 []) = RES := ⟨_, rfl⟩
  have hrx : Hid (RX w3 rb 0 v3 bs (.slice none 0 0) at3 bad3 (q2 : Int) r3 RES) := by
    refine .mk ?_
    rcases m8.out with ⟨x1, x2, x3, x4⟩ | ⟨x1, x2⟩
    · subst x1
      rw [if_neg (fun x => x rfl)] at hRES
      subst x2
      refine .inl ⟨rfl, by omega, by omega, [], own_nil _ _ _ _, by simp, ?_⟩
      show runsL bs (v3 - 0) at3 [] = RES
      rw [Nat.sub_zero, x3, Nat.zero_add]
      exact hRES
    · rw [if_pos x1] at hRES
      subst hRES
      exact .inr ⟨by omega, rfl, by rw [x2]⟩
  have hfinal : Hid ((RES.1 ≠ 0 → readR bs = (RES.1, RES.2.1, [], [])) ∧ (RES.1 = 0 → ∀ I, insL bs (bs.length + 1) RES.2.1 initN [] = I → readR bs = if I.1 ≠ 0 then (I.1, I.2.1, [], []) else (0, 0, RES.2.2, I.2.2))) := by
    show _ ∧ _
    by_cases hz : q2 = 0
    · subst hz
      rw [if_neg (fun x => x rfl)] at hRES
      exact ⟨fun h => readR_runs HQ.out hRES h, fun h I hI => readR_ins HQ.out hRES h hI⟩
    · rw [if_pos hz] at hRES
      subst hRES
      exact ⟨fun _ => readR_num HQ.out hz, fun h => absurd h hz⟩
  have hHQ := HQ
  clear hRES m8 HNU
  go_wp2_with fail
  go_loopw [11] (fun i wr => ∃ (k : Nat) (lv : Value) (r' : Int) (at' : Nat) (bad' e' : Int), i = .int .i64 (k : Int) ∧ k ≤ v3 ∧ Hid (CR wr rb g f c1 A1 bs r' at' lv (.slice none 0 0) bad' e') ∧ Hid (Below gb w wr) ∧ Hid (wr.heap[gb]? = some (.cells #[.slice none 0 0, .slice none 0 0] 34 (0, 0))) ∧ at' ≤ bs.length ∧ Hid (RX wr rb k v3 bs lv at' bad' e' r' RES)) (fun i _ => v3 - (intOf i).toNat)
  case atStart => exact ⟨0, _, r3, at3, bad3, (q2 : Int), rfl, by omega, m1, hbel3, z3, m6, hrx⟩
  case round =>
    clear hrx z3 hbel3 m1
    obtain ⟨k, lv, r', at', bad', e', rfl, hk, hcr, hbr, hgbr, hat, hrx⟩ := hrel
    have y4 := cell_blk hcr.out.blk 4
    simp at y4
    by_cases he : e' = 0
    · subst he
      obtain ⟨hr0, hr1, locs, hown, hlc, hruns⟩ : 0 ≤ r' ∧ r' ≤ 20 + 1340 * (at' : Int) ∧ ∃ locs : List UInt8, Hid (wr.ownsRow (rb + 1) 78 1 lv locs.length (locs.map B)) ∧ locs.length ≤ 50 ∧ Hid (runsL bs (v3 - k) at' locs = RES) := by
        rcases hrx.out.out with ⟨_, x⟩ | ⟨x, _⟩
        · exact x
        · exact absurd rfl x
      clear hrx
      by_cases hlt : k < v3
      · have HLO := hide (rlocals_any rb g f c1 A1 bs r' at' lv (.slice none 0 0) bad' locs wr hcr hown hr0 (by omega) (by omega) hat hlc)
        obtain ⟨p, hp⟩ : ∃ p, runL (bs.drop at') at' locs.length = p := ⟨_, rfl⟩
        have hroom := runL_room (l := bs.drop at') (at_ := at') hlc
        have hst := runsL_step (k := v3 - (k + 1)) p hp
        rw [hp] at HLO hroom
        have hrs := hruns.out
        rw [show v3 - k = v3 - (k + 1) + 1 from by omega, hst] at hrs
        have HRS := hide hrs; have HROOM := hide hroom
        clear hst hp hrs hroom
        go_wp2_with fail
        refine HLO.out.mono ?_; rintro ee w5 ⟨r5, at5, lv5, bad5, rfl, p1, p2, p3, p4, p5, p6, p7⟩
        have hb5 : Hid (Below gb w w5) := hbr.out.trans (p2.out.mono (by omega))
        have hg5 : Hid (w5.heap[gb]? = some (.cells #[.slice none 0 0, .slice none 0 0] 34 (0, 0))) := (p2.out.block gb hgf).trans hgbr.out
        clear HLO
        go_wp2_with fail
        go_roundw
        case rel =>
          refine ⟨k + 1, lv5, r5, at5, bad5, (p.1 : Int), by go_num, by omega, p1, hb5, hg5, p6, ⟨?_⟩⟩
          have hrs := HRS.out
          rcases p7.out with ⟨x1, x2, x3, x4⟩ | ⟨x1, x2⟩
          · rw [if_neg (fun x => x x1)] at hrs
            obtain ⟨j1, j2⟩ := HROOM.out x1
            refine .inl ⟨by omega, by omega, by omega, _, x4, by simp; omega, ?_⟩
            show runsL bs (v3 - (k + 1)) at5 _ = RES
            rw [x2]
            exact hrs
          · rw [if_pos x1] at hrs
            refine .inr ⟨by omega, by rw [← hrs], by rw [← hrs]; exact x2⟩
        case measure => simp [intOf] <;> omega
      · have hkv : k = v3 := by omega
        subst hkv
        have hR : RES = (0, at', locs) := by have := hruns.out; rw [Nat.sub_self] at this; exact this.symm
        subst hR
        have HINS := hide (rinstrs_any rb g f c1 A1 bs r' at' lv locs bad' wr hcr hown hr0 hr1 (by omega) hat)
        obtain ⟨I, hI⟩ : ∃ I, insL bs (bs.length + 1) at' initN [] = I := ⟨_, rfl⟩
        have hfi := hfinal.out.2 rfl I hI
        rw [hI] at HINS
        have HFI := hide hfi
        clear hfi hI hlt
        go_wp2_with fail
        refine HINS.out.mono ?_; rintro ee w5 ⟨r5, at5, iv5, bad5, rfl, p1, p2, p3, p4⟩
        have hb5 : Hid (Below gb w w5) := hbr.out.trans (p2.out.below (by have := blk_lt hgbr.out; omega) (by simp; omega))
        have hg5 : Hid (w5.heap[gb]? = some (.cells #[.slice none 0 0, .slice none 0 0] 34 (0, 0))) := (p2.out.block gb (blk_lt hgbr.out) (by simp; omega)).trans hgbr.out
        have hown5 := hide (own_only3 hown.out p2.out (fun q hq => by have := own_ge hown.out q hq; simp; omega))
        have y4' := cell_blk p1.out.blk 4
        simp at y4'
        clear y4
        by_cases hiz : I.1 = 0
        · have hfi := HFI.out
          rw [if_neg (fun x => x hiz)] at hfi
          rw [hiz] at y4'
          have u1 := cell_blk p1.out.blk 1
          have u2 := cell_blk p1.out.blk 2
          have t0 := cell_blk hg5.out 0
          have t1 := cell_blk hg5.out 1
          have zt0 := frozen_blk hg5.out 0
          have zt1 := frozen_blk hg5.out 1
          simp at u1 u2 t0 t1
          obtain ⟨WE, hWE, hOE, hBE⟩ := body_put hg5.out lv iv5
          have HIZ := hide hiz
          have HFI2 := hide hfi
          have HWE := hide hWE; have HOE := hide hOE; have HBE := hide hBE
          clear hWE hOE hBE hiz hfi
          obtain ⟨ys, vs, vo, hir, hdis, hyl, hyc⟩ := p4.out HIZ.out
          have HIR := hide hir; have HDIS := hide hdis; have HYC := hide hyc
          clear hir hdis hyc
          obtain ⟨Alv, clv, rfl, _, _⟩ := own_form hown5.out
          obtain ⟨Aiv, civ, rfl, _, _⟩ := own_form HIR.out.row
          go_wp2_with fail
          rw [HWE.out]
          clear t0 t1 zt0 zt1 y4' u1 u2
          have t0 := cell_blk HBE.out 0
          have t1 := cell_blk HBE.out 1
          simp at t0 t1
          refine bodyPost_ret (v := .tuple #[.agg #[.slice Alv locs.length clv, .slice Aiv ys.length civ], .int .i64 0, .int .i64 0]) (by simp [results, Try.results7, go_sem, t0, t1]) rfl ?_
          rw [HFI2.out]
          have hbE : Below gb w WE := hb5.out.trans (HOE.out.below (by have := hb5.out.size; have := blk_lt hg5.out; omega) (by simp))
          refine ⟨.slice Alv locs.length clv, .slice Aiv ys.length civ, vs, vo, ys, rfl, by rw [HGB.out]; exact hbE, ?_, ?_, HDIS.out, hyl, HYC, hlc⟩
          · rw [HGB.out]
            exact own_base (own_only3 hown5.out HOE.out (fun q hq => by have := own_ge hown5.out q hq; simp; omega)) (fun q hq => by have := own_ge hown5.out q hq; omega)
          · have hwg := blk_lt hcr.out.blk
            rw [HGB.out]
            exact (HIR.out.keep HOE.out (by simp; omega)).base (by omega)
        · have hfi := HFI.out
          rw [if_pos hiz] at hfi
          have HFI3 := hide hfi
          have fi : ((I.1 : Int) == 0) = false := by simp; omega
          have fi2 : ((I.1 : Int) != 0) = true := by simp; omega
          have HP3 := hide (p3.out hiz)
          clear hiz hfi
          have e3 := cell_blk p1.out.blk 3
          have e4 := cell_blk p1.out.blk 4
          have u0 := cell_blk hg5.out 0
          have u1 := cell_blk hg5.out 1
          have zu0 := frozen_blk hg5.out 0
          have zu1 := frozen_blk hg5.out 1
          simp at e3 e4 u0 u1
          obtain ⟨WE, hWE, hOE, hBE⟩ := body_put hg5.out (.slice none 0 0) (.slice none 0 0)
          have HWE := hide hWE; have HOE := hide hOE; have HBE := hide hBE
          clear hWE hOE hBE
          go_upto_region 14 with fail
          go_region
          rw [HWE.out]
          clear u0 u1 zu0 zu1 e3 e4
          have u0 := cell_blk HBE.out 0
          have u1 := cell_blk HBE.out 1
          simp at u0 u1
          go_wp2_with fail
          refine bodyPost_ret (v := .tuple #[.agg #[.slice none 0 0, .slice none 0 0], .int .i64 bad5, .int .i64 (I.1 : Int)]) (by simp [results, Try.results7, go_sem, u0, u1]) rfl ?_
          have hbE : Below gb w WE := hb5.out.trans (HOE.out.below (by have := hb5.out.size; have := blk_lt hg5.out; omega) (by simp))
          rw [HP3.out, HFI3.out]
          exact ⟨.slice none 0 0, .slice none 0 0, .slice none 0 0, .slice none 0 0, [], rfl, by rw [HGB.out]; first | exact hbE | exact ⟨hbE.os, hbE.tape, hbE.output, hbE.size, hbE.block⟩, own_nil _ _ _ _, IR.nil _ _ _ _ _, rfl, by simp, (by show ∀ _, _; simp), by simp⟩
    · obtain ⟨hx1, hx2⟩ : (RES.1 : Int) = e' ∧ bad' = (RES.2.1 : Int) := by
        rcases hrx.out.out with ⟨x, _⟩ | ⟨_, x⟩
        · exact absurd x he
        · exact x
      have fe : (e' == 0) = false := by simpa using he
      have fe2 : (e' != 0) = true := by simpa using he
      have hfi := hfinal.out.1 (fun x => he (by rw [← hx1, x]; rfl))
      have HFI := hide hfi; have HX1 := hide hx1; have HX2 := hide hx2
      clear he hrx hx1 hx2 hfi
      by_cases hlt : k < v3
      · have e3 := cell_blk hcr.out.blk 3
        have u0 := cell_blk hgbr.out 0
        have u1 := cell_blk hgbr.out 1
        have zu0 := frozen_blk hgbr.out 0
        have zu1 := frozen_blk hgbr.out 1
        simp at e3 u0 u1
        obtain ⟨WE, hWE, hOE, hBE⟩ := body_put hgbr.out (.slice none 0 0) (.slice none 0 0)
        have HWE := hide hWE; have HOE := hide hOE; have HBE := hide hBE
        clear hWE hOE hBE
        go_upto_region 14 with fail
        go_region
        rw [HWE.out]
        clear u0 u1 zu0 zu1 e3 y4
        have u0 := cell_blk HBE.out 0
        have u1 := cell_blk HBE.out 1
        simp at u0 u1
        go_wp2_with fail
        refine bodyPost_ret (v := .tuple #[.agg #[.slice none 0 0, .slice none 0 0], .int .i64 bad', .int .i64 e']) (by simp [results, Try.results7, go_sem, u0, u1]) rfl ?_
        have hbE : Below gb w WE := hbr.out.trans (HOE.out.below (by have := hbr.out.size; have := blk_lt hgbr.out; omega) (by simp))
        rw [HX2.out, ← HX1.out, HFI.out]
        exact ⟨.slice none 0 0, .slice none 0 0, .slice none 0 0, .slice none 0 0, [], rfl, by rw [HGB.out]; first | exact hbE | exact ⟨hbE.os, hbE.tape, hbE.output, hbE.size, hbE.block⟩, own_nil _ _ _ _, IR.nil _ _ _ _ _, rfl, by simp, (by show ∀ _, _; simp), by simp⟩
      · have e3 := cell_blk hcr.out.blk 3
        have u0 := cell_blk hgbr.out 0
        have u1 := cell_blk hgbr.out 1
        have zu0 := frozen_blk hgbr.out 0
        have zu1 := frozen_blk hgbr.out 1
        simp at e3 u0 u1
        obtain ⟨WE, hWE, hOE, hBE⟩ := body_put hgbr.out (.slice none 0 0) (.slice none 0 0)
        have HWE := hide hWE; have HOE := hide hOE; have HBE := hide hBE
        clear hWE hOE hBE
        go_upto_region 14 with fail
        go_region
        rw [HWE.out]
        clear u0 u1 zu0 zu1 e3 y4
        have u0 := cell_blk HBE.out 0
        have u1 := cell_blk HBE.out 1
        simp at u0 u1
        go_wp2_with fail
        refine bodyPost_ret (v := .tuple #[.agg #[.slice none 0 0, .slice none 0 0], .int .i64 bad', .int .i64 e']) (by simp [results, Try.results7, go_sem, u0, u1]) rfl ?_
        have hbE : Below gb w WE := hbr.out.trans (HOE.out.below (by have := hbr.out.size; have := blk_lt hgbr.out; omega) (by simp))
        rw [HX2.out, ← HX1.out, HFI.out]
        exact ⟨.slice none 0 0, .slice none 0 0, .slice none 0 0, .slice none 0 0, [], rfl, by rw [HGB.out]; first | exact hbE | exact ⟨hbE.os, hbE.tape, hbE.output, hbE.size, hbE.block⟩, own_nil _ _ _ _, IR.nil _ _ _ _ _, rfl, by simp, (by show ∀ _, _; simp), by simp⟩
end Go.Proofs.Ytdhmkapknaphpaa
