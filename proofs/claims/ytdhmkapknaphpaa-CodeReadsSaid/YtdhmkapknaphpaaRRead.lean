/-
  The document's bodies: Read: contract.
-/
import Derived.Test.YtdhmkapknaphpaaCReadE
import Derived.Test.YtdhmkapknaphpaaRefDec
import Derived.Test.YtdhmkapknaphpaaRefSp
namespace Go.Proofs.Ytdhmkapknaphpaa
open Go.RowKit
set_option linter.unusedVariables false

theorem ri_elem : IsElem Try.prog 42 70 5 56 := IsElem.mk' Try.underlying42 (z := .agg #[.int .i64 0, .int .u64 0, .int .u64 0, .int .i64 0, .slice none 0 0]) (by kernel_rfl) rfl (by omega)

/-- what the document's Read leaves -/
structure RReadC (w : World) (res : Nat × Nat × List UInt8 × List DI) (en : Ending) (w' : World) : Prop where
  out : ∃ (lv iv vs vo : Value) (ys : List (Value × DI)), en = .returned (.tuple #[.agg #[lv, iv], .int .i64 (res.2.1 : Int), .int .i64 (res.1 : Int)]) ∧ Hid (Below w.heap.size w w') ∧
    Hid (w'.ownsRow w.heap.size 5 1 lv res.2.2.1.length (res.2.2.1.map B)) ∧ Hid (IR w' w.heap.size 70 vs vo iv ys) ∧ Hid (dis ys = res.2.2.2) ∧ ys.length ≤ 1000 ∧ Hid (∀ y ∈ ys, y.2.l.length ≤ 100) ∧ res.2.2.1.length ≤ 50
/-- the result stored -/
theorem rb_put {w : World} {gb : Nat} {a b : Value} (h : w.heap[gb]? = some (.cells #[a, b] 44 (0, 0))) (v0 v1 : Value) :
    ∃ W : World, (w.setCell ⟨gb, 0, none⟩ v0).setCell ⟨gb, 1, none⟩ v1 = W ∧ Only [gb] w W ∧ W.heap[gb]? = some (.cells #[v0, v1] 44 (0, 0)) := by
  refine ⟨_, rfl, (Only.setCell w (p := ⟨gb, 0, none⟩) (by simp) v0).trans (Only.setCell _ (p := ⟨gb, 1, none⟩) (by simp) v1), ?_⟩
  rw [setCell_blk (setCell_blk h 0 _) 1 _]
  rfl
theorem RReadC.err {w w' : World} {gb e p : Nat} {res : Nat × Nat × List UInt8 × List DI} (hgb : w.heap.size = gb) (hb : Below gb w w') (hr : res = (e, p, [], [])) : RReadC w res (.returned (.tuple #[.agg #[.slice none 0 0, .slice none 0 0], .int .i64 (p : Int), .int .i64 (e : Int)])) w' := by
  subst hr
  exact ⟨.slice none 0 0, .slice none 0 0, .slice none 0 0, .slice none 0 0, [], rfl, by rw [hgb]; exact hb, own_nil _ _ _ _, IR.nil _ _ _ _ _, rfl, by simp, (by show ∀ _, _; simp), by simp⟩

/-- the variables of the document's Read: the result, the body so far -/
structure RV (w wr : World) (gb go : Nat) (lv iv : Value) : Prop where
  res : wr.heap[gb]? = some (.cells #[.slice none 0 0, .slice none 0 0] 44 (0, 0))
  out : wr.heap[go]? = some (.cells #[lv, iv] 44 (0, 0))
  lt : gb < go
  bel : Below gb w wr
theorem RV.below {w wr w' : World} {gb go : Nat} {lv iv : Value} {Bk : Nat} (h : RV w wr gb go lv iv) (hb : Below Bk wr w') (h1 : go < Bk) : RV w w' gb go lv iv :=
  ⟨(hb.block gb (by have := h.lt; omega)).trans h.res, (hb.block go h1).trans h.out, h.lt, h.bel.trans (hb.mono (by have := h.lt; omega))⟩
theorem RV.setL {w wr : World} {gb go : Nat} {lv iv : Value} (h : RV w wr gb go lv iv) (x : Value) : RV w (wr.setCell ⟨go, 0, none⟩ x) gb go x iv := by
  have hs : Only [go] wr (wr.setCell ⟨go, 0, none⟩ x) := Only.setCell wr (p := ⟨go, 0, none⟩) (by simp) x
  exact ⟨(hs.block gb (blk_lt h.res) (by have := h.lt; simp; omega)).trans h.res, by rw [setCell_blk h.out]; rfl, h.lt, h.bel.trans (hs.below (by have := blk_lt h.res; omega) (by have := h.lt; simp; omega))⟩
theorem RV.setI {w wr : World} {gb go : Nat} {lv iv : Value} (h : RV w wr gb go lv iv) (x : Value) : RV w (wr.setCell ⟨go, 1, none⟩ x) gb go lv x := by
  have hs : Only [go] wr (wr.setCell ⟨go, 1, none⟩ x) := Only.setCell wr (p := ⟨go, 1, none⟩) (by simp) x
  exact ⟨(hs.block gb (blk_lt h.res) (by have := h.lt; simp; omega)).trans h.res, by rw [setCell_blk h.out]; rfl, h.lt, h.bel.trans (hs.below (by have := blk_lt h.res; omega) (by have := h.lt; simp; omega))⟩

/-- a part of the bytes, from a place on -/
theorem BY.reads {w : World} {A : Option Addr} {c Bk : Nat} {bs : List UInt8} (h : BY w A c Bk bs) (k : Nat) (hk : k ≤ bs.length) (hB : Bk ≤ w.heap.size) (hc : ¬ c = k) : Reads w w.heap.size 1 (A.map (·.add k)) (bs.drop k).length ((bs.drop k).map B) := by
  have := h.at_ k hk hB
  rw [if_neg hc] at this
  rw [List.length_drop]
  exact this

set_option maxRecDepth 100000 in
set_option maxHeartbeats 6400000 in
theorem refRead_any2 (A : Option Addr) (c Bk : Nat) (bs : List UInt8) (w : World) (hb : Hid (BY w A c Bk bs)) (hB : Bk ≤ w.heap.size) (hl : bs.length ≤ 400) (hcm : c ≤ maxLen) :
    Calls Try.prog 9 #[.slice A bs.length c] w (RReadC w (readR bs)) := by
  have hcap := hb.out.cap
  have hcm2 := hcm
  unfold maxLen at hcm2
  obtain ⟨gb, hgb⟩ : ∃ gb, w.heap.size = gb := ⟨_, rfl⟩
  obtain ⟨W, hW⟩ : ∃ W, w.alloc (.cells #[.slice none 0 0, .slice none 0 0] 44) = W := ⟨_, rfl⟩
  have hbW : Below gb w W := by rw [← hW, ← hgb]; exact (Below.refl _ _).alloc (Nat.le_refl _) _
  have hblk : Hid (W.heap[gb]? = some (.cells #[.slice none 0 0, .slice none 0 0] 44 (0, 0))) := by show _ = _; rw [← hW, ← hgb]; exact heap_alloc_new w _
  have hszW : gb < W.heap.size := blk_lt hblk.out
  have hbyW := hide (hb.out.below (hbW.mono (by omega)))
  obtain ⟨q0, q1, q2, hq⟩ : ∃ q0 q1 q2, unsignedL bs 32 = (q0, q1, q2) := ⟨_, _, _, rfl⟩
  have hqs : refUnsignedL bs 32 = (q0, q1, q2) := by rw [← unsigned_law, hq]
  have hcs := unsigned_cases bs 32
  rw [hq] at hcs
  have hq0 := unsignedL_lt32 bs
  rw [hq] at hq0
  simp only at hcs hq0
  have HU := hide (refUnsigned_any A c bs 32 W (hide (hbyW.out.row.more (by omega))) (by omega) q0 q1 q2 (hide hqs))
  have HGB := hide hgb; have HW := hide hW; have HBW := hide hbW; have HQ := hide hq; have HCS := hide hcs
  clear hgb hW hbW hq hqs hcs
  have hlb : decide ((4096 : Int) < (bs.length : Int)) = false := by simp; omega
  go_enter Try.func9, Try.ntmps9
  go_upto_region 1 with fail
  rw [HW.out, HGB.out]
  go_wp2_with fail
  refine HU.out.mono ?_; rintro ee w1 ⟨rfl, hb1⟩
  have hg1 := hide ((hb1.block gb hszW).trans hblk.out)
  have hbel1 : Hid (Below gb w w1) := HBW.out.trans (hb1.mono (by omega))
  have hsz1 : gb < w1.heap.size := blk_lt hg1.out
  clear hb1
  by_cases hz : q2 = 0
  · subst hz
    obtain ⟨go, hgo⟩ : ∃ go, w1.heap.size = go := ⟨_, rfl⟩
    obtain ⟨W2, hW2⟩ : ∃ W2, w1.alloc (.cells #[.slice none 0 0, .slice none 0 0] 44) = W2 := ⟨_, rfl⟩
    have hrv0 : Hid (RV w W2 gb go (.slice none 0 0) (.slice none 0 0)) := by
      have hb2 : Below go w1 W2 := by rw [← hW2, ← hgo]; exact (Below.refl _ _).alloc (Nat.le_refl _) _
      exact ⟨(hb2.block gb (by omega)).trans hg1.out, by rw [← hW2, ← hgo]; exact heap_alloc_new w1 _, by omega, hbel1.out.trans (hb2.mono (by omega))⟩
    have HGO := hide hgo; have HW2 := hide hW2
    clear hgo hW2
    go_upto_region 7 with fail
    rw [HW2.out, HGO.out]
    go_wp2_with fail
    obtain ⟨RES, hRES⟩ : ∃ RES, runsL bs q0 q1 [] = RES := ⟨_, rfl⟩
    have hbad : Hid (RES.1 ≠ 0 → readR bs = (RES.1, RES.2.1, [], [])) := by show _ → _; exact fun h => readR_runs HQ.out hRES h
    have hgood : Hid (RES.1 = 0 → ∀ I, insL bs (bs.length + 1) RES.2.1 initN [] = I → readR bs = if I.1 ≠ 0 then (I.1, I.2.1, [], []) else (0, 0, RES.2.2, I.2.2)) := by show _ → _; exact fun h I hI => readR_ins HQ.out hRES h hI
    have HRES := hide hRES; clear hRES
    go_loopw [6, 9] (fun a i wr => ∃ (k at' : Nat) (locs : List UInt8) (lv : Value), a = .int .i64 (at' : Int) ∧ i = .int .u64 (k : Int) ∧ k ≤ q0 ∧ at' ≤ bs.length ∧ Hid (RV w wr gb go lv (.slice none 0 0)) ∧ Hid (wr.ownsRow (go + 1) 5 1 lv locs.length (locs.map B)) ∧ locs.length ≤ 50 ∧ Hid (runsL bs (q0 - k) at' locs = RES)) (fun _ i _ => q0 - (intOf i).toNat)
    case atStart => exact ⟨0, q1, [], _, rfl, rfl, by omega, by have := HCS.out; omega, hrv0, own_nil _ _ _ _, by simp, HRES⟩
    case round =>
      clear hrv0
      obtain ⟨k, at', locs, lv, rfl, rfl, hk, hat, hrv, hown, hlc, hruns⟩ := hrel
      by_cases hlt : k < q0
      · obtain ⟨u0, u1, u2, hu⟩ : ∃ u0 u1 u2, unsignedL (bs.drop at') 32 = (u0, u1, u2) := ⟨_, _, _, rfl⟩
        have hcs := unsigned_cases (bs.drop at') 32
        have hu0 := unsignedL_lt32 (bs.drop at')
        rw [hu] at hu0
        rw [hu, List.length_drop] at hcs
        simp only at hcs hu0
        have hus : Hid (refUnsignedL (bs.drop at') 32 = (u0, u1, u2)) := by show _ = _; rw [← unsigned_law, hu]
        have hbyr := hide (hb.out.below (hrv.out.bel.mono (by have := HGB.out; omega)))
        have hBr : Bk ≤ wr.heap.size := by have := hrv.out.bel.size; have := HGB.out; omega
        obtain ⟨p, hp⟩ : ∃ p, runL (bs.drop at') at' locs.length = p := ⟨_, rfl⟩
        have hroom := runL_room (l := bs.drop at') (at_ := at') hlc
        have hst := runsL_step (k := q0 - (k + 1)) p hp
        rw [hp] at hroom
        have hrs := hruns.out
        rw [show q0 - k = q0 - (k + 1) + 1 from by omega, hst] at hrs
        have HUQ := hide hu; have HP := hide hp; have HRS := hide hrs; have HROOM := hide hroom; have HCS2 := hide hcs
        have hu1 : u1 ≤ 400 := by omega
        have hatu : at' + u1 ≤ bs.length := by omega
        clear hu hp hrs hroom hst hcs hruns
        go_upto_region 10 with fail
        go_cut [10, 11, 12] (fun n sz fv wx => n = .int .u64 (u0 : Int) ∧ sz = .int .i64 (u1 : Int) ∧ fv = .int .i64 (u2 : Int) ∧ Hid (Below wr.heap.size wr wx))
        case first =>
          by_cases hc : c = at'
          · subst hc
            have hd : bs.drop c = [] := List.drop_of_length_le (by omega)
            have HV := hide (refUnsigned_any A 0 [] 32 wr ⟨by simp, fun h => absurd h (by simp)⟩ (by simp) u0 u1 u2 (by have := hus; rw [hd] at this; exact this))
            have hbs : bs.length = c := by omega
            have HBS := hide hbs
            simp only [List.length_nil] at HV
            clear hd hbs
            go_wp2_with fail
            refine HV.out.mono ?_; rintro ee w3 ⟨rfl, hb3⟩
            go_wp2_with fail
            go_meet
            exact ⟨rfl, rfl, rfl, hb3⟩
          · have HV := hide (refUnsigned_any (A.map (·.add at')) (c - at') (bs.drop at') 32 wr (hide (hbyr.out.reads at' hat hBr hc)) (by simp; omega) u0 u1 u2 hus)
            rw [List.length_drop] at HV
            go_wp2_with fail
            refine HV.out.mono ?_; rintro ee w3 ⟨rfl, hb3⟩
            go_wp2_with fail
            go_meet
            exact ⟨rfl, rfl, rfl, hb3⟩
        case rest =>
          obtain ⟨rfl, rfl, rfl, hb3⟩ := hcut
          have hrv3 := hide (hrv.out.below hb3.out (blk_lt hrv.out.out))
          have hown3 := hide (own_only3 (S := []) hown.out (Only.of_below hb3.out) (by simp))
          have herr : Hid (p.1 ≠ 0 → readR bs = (p.1, p.2.1, [], [])) := by
            show _ → _
            intro h
            have hrs := HRS.out
            rw [if_pos h] at hrs
            have := hbad.out (by rw [← hrs]; exact h)
            rw [this, ← hrs]
          have hbyc := hide (hb.out.below (hrv3.out.bel.mono (by have := HGB.out; omega)))
          by_cases hz : u2 = 0
          · subst hz
            obtain ⟨a2, ha2⟩ : ∃ a2, at' + u1 = a2 := ⟨_, rfl⟩
            have hdd : (bs.drop at').drop u1 = bs.drop a2 := by rw [List.drop_drop, ha2]
            have HDD := hide hdd; have HA2 := hide ha2
            have h2 : (at' : Int) + (u1 : Int) = (a2 : Int) := by omega
            have ha2l : a2 ≤ bs.length := by omega
            clear hdd ha2 hatu
            by_cases hend : a2 = bs.length
            · have hpv : p = (3, at' + u1, 0, 0, 0) := by rw [← HP.out]; exact runL_nil HUQ.out (by rw [HDD.out]; exact List.drop_of_length_le (by omega))
              have HERR := hide (herr.out (by rw [hpv]; simp))
              rw [hpv, HA2.out] at HERR
              have fend : ((a2 : Int) == (bs.length : Int)) = true := by simp; omega
              clear hend hpv
              have t0 := cell_blk hrv3.out.res 0
              have t1 := cell_blk hrv3.out.res 1
              have zt0 := frozen_blk hrv3.out.res 0
              have zt1 := frozen_blk hrv3.out.res 1
              simp at t0 t1
              obtain ⟨WE, hWE, hOE, hBE⟩ := rb_put hrv3.out.res (.slice none 0 0) (.slice none 0 0)
              have HWE := hide hWE; have HOE := hide hOE; have HBE := hide hBE
              clear hWE hOE hBE
              go_wp2_with fail
              rw [HWE.out]
              clear t0 t1 zt0 zt1
              have t0 := cell_blk HBE.out 0
              have t1 := cell_blk HBE.out 1
              simp at t0 t1
              refine bodyPost_ret (v := .tuple #[.agg #[.slice none 0 0, .slice none 0 0], .int .i64 (a2 : Int), .int .i64 (3 : Int)]) (by simp [results, Try.results9, go_sem, t0, t1]) rfl ?_
              exact RReadC.err (e := 3) (p := a2) HGB.out (hrv3.out.bel.trans (HOE.out.below (by have := hrv3.out.bel.size; have := blk_lt hrv3.out.res; omega) (by simp))) HERR.out
            · have hlt2 : a2 < bs.length := by omega
              have fend : ((a2 : Int) == (bs.length : Int)) = false := by simp; omega
              obtain ⟨ad, t, hA, ht, hcell, ht0, ht1⟩ := hbyc.out.row.byte hlt2
              subst hA
              have hd2 : bs.drop a2 = t :: bs.drop (a2 + 1) := by
                obtain ⟨j1, j2⟩ := List.getElem?_eq_some_iff.1 ht.out
                rw [List.drop_eq_getElem_cons j1, j2]
              have HD2 := hide hd2
              obtain ⟨tn, htn⟩ : ∃ tn, t.toNat = tn := ⟨_, rfl⟩
              rw [htn] at hcell ht0 ht1
              clear hend hd2
              by_cases hbt : tn ≠ 126 ∧ tn ≠ 127
              · have hpv : p = (4, at' + u1, 0, 0, 0) := by rw [← HP.out]; exact runL_bad HUQ.out (HDD.out.trans HD2.out) (by rw [htn]; exact hbt)
                have HERR := hide (herr.out (by rw [hpv]; simp))
                rw [hpv, HA2.out] at HERR
                have f1 : ((tn : Int) != 126) = true := by simp; omega
                have f2 : ((tn : Int) != 127) = true := by simp; omega
                have HTN := hide htn
                clear hpv hbt htn
                have t0 := cell_blk hrv3.out.res 0
                have t1 := cell_blk hrv3.out.res 1
                have zt0 := frozen_blk hrv3.out.res 0
                have zt1 := frozen_blk hrv3.out.res 1
                simp at t0 t1
                obtain ⟨WE, hWE, hOE, hBE⟩ := rb_put hrv3.out.res (.slice none 0 0) (.slice none 0 0)
                have HWE := hide hWE; have HOE := hide hOE; have HBE := hide hBE
                clear hWE hOE hBE
                go_wp2_with fail
                rw [HWE.out]
                clear t0 t1 zt0 zt1
                have t0 := cell_blk HBE.out 0
                have t1 := cell_blk HBE.out 1
                simp at t0 t1
                refine bodyPost_ret (v := .tuple #[.agg #[.slice none 0 0, .slice none 0 0], .int .i64 (a2 : Int), .int .i64 (4 : Int)]) (by simp [results, Try.results9, go_sem, t0, t1]) rfl ?_
                exact RReadC.err (e := 4) (p := a2) HGB.out (hrv3.out.bel.trans (HOE.out.below (by have := hrv3.out.bel.size; have := blk_lt hrv3.out.res; omega) (by simp))) HERR.out
              · have hbt' : ¬ (t.toNat ≠ 126 ∧ t.toNat ≠ 127) := by rw [htn]; exact hbt
                obtain ⟨Alv, clv, hlv, hcl1, hcl2⟩ := own_form hown3.out
                subst hlv
                have l0 := cell_blk hrv3.out.out 0
                simp at l0
                by_cases hbig : 50 - locs.length < u0
                · have hpv : p = (15, at', 0, 0, 0) := by rw [← HP.out]; exact runL_big HUQ.out (HDD.out.trans HD2.out) hbt' hbig
                  have HERR := hide (herr.out (by rw [hpv]; simp))
                  rw [hpv] at HERR
                  have fb : decide ((50 : Int) - (locs.length : Int) < (u0 : Int)) = true := by simp; omega
                  have HTN := hide htn
                  have hor : tn = 126 ∨ tn = 127 := by omega
                  clear hpv hbt hbt' hbig htn
                  rcases hor with rfl | rfl
                  all_goals
                    have t0 := cell_blk hrv3.out.res 0
                    have t1 := cell_blk hrv3.out.res 1
                    have zt0 := frozen_blk hrv3.out.res 0
                    have zt1 := frozen_blk hrv3.out.res 1
                    simp at t0 t1
                    obtain ⟨WE, hWE, hOE, hBE⟩ := rb_put hrv3.out.res (.slice none 0 0) (.slice none 0 0)
                    have HWE := hide hWE; have HOE := hide hOE; have HBE := hide hBE
                    clear hWE hOE hBE
                    go_wp2_with fail
                    rw [HWE.out]
                    clear t0 t1 zt0 zt1
                    have t0 := cell_blk HBE.out 0
                    have t1 := cell_blk HBE.out 1
                    simp at t0 t1
                    refine bodyPost_ret (v := .tuple #[.agg #[.slice none 0 0, .slice none 0 0], .int .i64 (at' : Int), .int .i64 (15 : Int)]) (by simp [results, Try.results9, go_sem, t0, t1]) rfl ?_
                    exact RReadC.err (e := 15) (p := at') HGB.out (hrv3.out.bel.trans (HOE.out.below (by have := hrv3.out.bel.size; have := blk_lt hrv3.out.res; omega) (by simp))) HERR.out
                · have hpv : p = (0, 0, u1 + 1, t, u0) := by rw [← HP.out]; exact runL_ok HUQ.out (HDD.out.trans HD2.out) hbt' hbig
                  have hrs := HRS.out
                  rw [hpv] at hrs
                  simp only at hrs
                  rw [if_neg (fun x => x rfl)] at hrs
                  have HRS2 := hide hrs
                  have fb : decide ((50 : Int) - (locs.length : Int) < (u0 : Int)) = false := by simp; omega
                  have hu50 : locs.length + u0 ≤ 50 := by omega
                  have HTN := hide htn
                  have hor : tn = 126 ∨ tn = 127 := by omega
                  clear hpv hbt hbt' hbig htn hrs
                  have hl14 : Hid (Value.int .u8 (tn : Int) = B t) := by show _ = _; rw [← HTN.out]; rfl
                  have hst0 : Hid (wc.ownsRow (go + 1) 5 1 (.slice Alv locs.length clv) (locs ++ List.replicate 0 t).length ((locs ++ List.replicate 0 t).map B)) := own_cast hown3.out (by simp) (by simp)
                  have hff : (((tn : Int) != 126) = true ∧ ((tn : Int) != 127) = false) ∨ (((tn : Int) != 126) = false ∧ ((tn : Int) != 127) = true) := by
                    rcases hor with h | h
                    · exact .inr ⟨by simp; omega, by simp; omega⟩
                    · exact .inl ⟨by simp; omega, by simp; omega⟩
                  clear hor
                  rcases hff with ⟨f1, f2⟩ | ⟨f1, f2⟩
                  all_goals
                    go_wp2_with fail
                    clear hcell ht0 ht1 f1 f2
                    go_loopw [14] (fun j wx => ∃ (m : Nat) (lv' : Value), j = .int .u64 (m : Int) ∧ m ≤ u0 ∧ Hid (RV w wx gb go lv' (.slice none 0 0)) ∧ Hid (wx.ownsRow (go + 1) 5 1 lv' (locs ++ List.replicate m t).length ((locs ++ List.replicate m t).map B))) (fun j _ => u0 - (intOf j).toNat)
                    case atStart => exact ⟨0, _, rfl, by omega, hrv3, hst0⟩
                    case round =>
                      clear hst0 l0
                      obtain ⟨m, lv', rfl, hm, hrvm, hom⟩ := hrel
                      obtain ⟨Am, cm, hvm, hcm1, hcm3⟩ := own_form hom.out
                      have hlm : (locs ++ List.replicate m t).length = locs.length + m := by simp
                      by_cases hlt3 : m < u0
                      · have hroom1 : Room (locs.length + m) 1 1 := room_of (by omega) (by omega)
                        have hszm := blk_lt hrvm.out.out
                        have HLM := hide hlm
                        clear hlm
                        subst hvm
                        obtain ⟨xs, hxs⟩ : ∃ xs, (locs ++ List.replicate m t).map B = xs := ⟨_, rfl⟩
                        rw [hxs] at hom
                        have HXS := hide hxs; clear hxs
                        rw [show (locs ++ List.replicate m t).length = locs.length + m from HLM.out] at hom hrvm
                        have l0 := cell_blk hrvm.out.out 0
                        simp at l0
                        go_wp2_with (at_builtin; refine wpList_push rfl _ _ rfl (go + 1) u8_elem _ (locs.length + m) xs rfl wr (.int .u8 (tn : Int)) 5 rfl hom.out rfl rfl hroom1 hszm ?_; intro v' w6 ho6 hg6; have hb6 := hide (hg6.below hszm (own_ge hom.out)); have HO6 := hide ho6; clear ho6 hg6; obtain ⟨A6, c6, rfl, hc61, hc62⟩ := own_form HO6.out; have x0 := cell_blk ((hb6.out.block go (by omega)).trans hrvm.out.out) 0; have zx0 := frozen_blk ((hb6.out.block go (by omega)).trans hrvm.out.out) 0; simp at x0)
                        have hrv6 := hide ((hrvm.out.below hb6.out (by omega)).setL (.slice A6 (locs.length + m + 1) c6))
                        have hs6 : Only [go] w6 (w6.setCell ⟨go, 0, none⟩ (.slice A6 (locs.length + m + 1) c6)) := Only.setCell w6 (p := ⟨go, 0, none⟩) (by simp) _
                        have ho6 : Hid ((w6.setCell ⟨go, 0, none⟩ (.slice A6 (locs.length + m + 1) c6)).ownsRow (go + 1) 5 1 (.slice A6 (locs.length + m + 1) c6) (locs ++ List.replicate (m + 1) t).length ((locs ++ List.replicate (m + 1) t).map B)) := own_cast (own_only3 HO6.out hs6 (fun q hq => by have := own_ge HO6.out q hq; simp; omega)) (by simp; omega) (by rw [← HXS.out, hl14.out, List.replicate_succ', ← List.append_assoc, List.map_append (l₁ := locs ++ List.replicate m t)]; rfl)
                        clear l0 hs6
                        go_roundw
                        case rel => exact ⟨m + 1, _, by go_num, by omega, hrv6, ho6⟩
                        case measure => simp [intOf] <;> omega
                      · have hmu : m = u0 := by omega
                        subst hmu
                        have HVM := hide hvm
                        clear hlt3 hlm hvm
                        go_wp2_with fail
                        go_roundw
                        case rel =>
                          refine ⟨k + 1, a2 + 1, locs ++ List.replicate m t, lv', by go_num, by go_num, by omega, by omega, hrvm, hom, by simp; omega, ?_⟩
                          show runsL bs (q0 - (k + 1)) (a2 + 1) _ = RES
                          rw [← HA2.out, ← HRS2.out, Nat.add_assoc]
                        case measure => simp [intOf] <;> omega
          · have fz : ((u2 : Int) != 0) = true := by simp; omega
            obtain ⟨j1, j2⟩ := runL_num (l := bs.drop at') (at_ := at') (n := locs.length) (by rw [HUQ.out]; exact hz)
            rw [HP.out, HUQ.out] at j1
            rw [HP.out] at j2
            simp only at j1
            have HERR := hide (herr.out (by rw [j1]; exact hz))
            rw [j1, j2] at HERR
            clear hz j1 j2
            have t0 := cell_blk hrv3.out.res 0
            have t1 := cell_blk hrv3.out.res 1
            have zt0 := frozen_blk hrv3.out.res 0
            have zt1 := frozen_blk hrv3.out.res 1
            simp at t0 t1
            obtain ⟨WE, hWE, hOE, hBE⟩ := rb_put hrv3.out.res (.slice none 0 0) (.slice none 0 0)
            have HWE := hide hWE; have HOE := hide hOE; have HBE := hide hBE
            clear hWE hOE hBE
            go_wp2_with fail
            rw [HWE.out]
            clear t0 t1 zt0 zt1
            have t0 := cell_blk HBE.out 0
            have t1 := cell_blk HBE.out 1
            simp at t0 t1
            refine bodyPost_ret (v := .tuple #[.agg #[.slice none 0 0, .slice none 0 0], .int .i64 (at' : Int), .int .i64 (u2 : Int)]) (by simp [results, Try.results9, go_sem, t0, t1]) rfl ?_
            exact RReadC.err (e := u2) (p := at') HGB.out (hrv3.out.bel.trans (HOE.out.below (by have := hrv3.out.bel.size; have := blk_lt hrv3.out.res; omega) (by simp))) HERR.out
      · have hkq : k = q0 := by omega
        subst hkq
        clear hlt
        have hR : RES = (0, at', locs) := by have := hruns.out; rw [Nat.sub_self] at this; exact this.symm
        subst hR
        clear HRES hruns
        have hg2 := hgood.out rfl
        obtain ⟨I, hI⟩ : ∃ I, insL bs (bs.length + 1) at' initN [] = I := ⟨_, rfl⟩
        have hfin := hide (hg2 I hI)
        have HI := hide hI
        clear hg2 hI hbad hgood HU HQ HCS hq0
        have hlvp : Hid (∀ g, lv.ownBlock = some g → (Value.slice none 0 0).ownBlock ≠ some g) := by show ∀ _, _; intro g _ h; cases h
        go_wp2_with fail
        go_loopw [6, 15] (fun a pv wr => ∃ (a' : Nat) (Lv : Value) (s : NS) (ys : List (Value × DI)) (fu : Nat) (ps : List Nat), a = .int .i64 (a' : Int) ∧ a' ≤ bs.length ∧ Hid (RV w wr gb go lv Lv) ∧ Hid (wr.ownsRow (go + 1) 5 1 lv locs.length (locs.map B)) ∧ Hid (IR wr (go + 1) 70 lv pv Lv ys) ∧ Hid (wr.ownsRow (go + 1) 3 1 pv ps.length (ps.flatMap placeD)) ∧ ps.length = ys.length ∧ Hid (∀ g, lv.ownBlock = some g → pv.ownBlock ≠ some g) ∧ ys.length ≤ a' ∧ Hid (∀ y ∈ ys, y.2.code ≤ 200000 ∧ y.2.l.length ≤ 100) ∧ Hid (Came (codesD (dis ys)) s) ∧ bs.length < a' + fu ∧ Hid (insL bs fu a' s (dis ys) = I)) (fun a _ _ => bs.length - (intOf a).toNat)
        case atStart => exact ⟨at', _, initN, [], bs.length + 1, [], rfl, hat, hrv, hown, IR.nil _ _ _ _ _, own_nil _ _ _ _, rfl, hlvp, by simp, (by show ∀ _, _; simp), Came.init, by omega, HI⟩
        case round =>
          clear hrv hown hlvp HI
          obtain ⟨a', Lv, s, ys, fu0, ps, rfl, ha, hrv, hown, hir, hps, hpl, hlp, hya, hyc, hcame, hfu, hins⟩ := hrel
          obtain ⟨fu, rfl⟩ : ∃ u, fu0 = u + 1 := ⟨fu0 - 1, by omega⟩
          have hbyr := hide (hb.out.below (hrv.out.bel.mono (by have := HGB.out; omega)))
          have hBr : Bk ≤ wr.heap.size := by have := hrv.out.bel.size; have := HGB.out; omega
          have HPL := hide hpl; clear hpl
          by_cases hlt : a' < bs.length
          · have HD := hide (refDecode_any A c Bk bs a' wr hbyr hBr hl hlt hcm)
            have hins' := hins.out
            go_wp2_with fail
            refine HD.out.mono ?_; rintro ee w3 ⟨code, xa, xb, al, Ax, cx, lx, at4, e4, rfl, k1, k2, rfl, k4⟩
            have hkd := hide (decodeR_k (bs.drop a'))
            have hiend := insL_closed (bs := bs) (f := fu) (s := s) (xs := dis ys) hlt
            have hidec := insL_dec (bs := bs) (f := fu) (s := s) (xs := dis ys) hlt
            have histep := hide (insL_step (bs := bs) (f := fu) (s := s) (xs := dis ys) hlt)
            rw [hins'] at hiend hidec histep
            have HIEND := hide hiend; have HIDEC := hide hidec
            clear hins' hins hiend hidec HD
            generalize hdr : decodeR (bs.drop a') = dr at *
            have HDR := hide hdr; clear hdr
            obtain ⟨gx, hgx⟩ : ∃ gx, w3.heap.size = gx := ⟨_, rfl⟩
            obtain ⟨W4, hW4⟩ : ∃ W4, (w3.alloc (.cells #[.int .i64 (code : Int), .int .u64 (xa : Int), .int .u64 (xb : Int), .int .i64 (al : Int), .slice Ax lx.length cx] 70)).alloc (.cells #[.int .i64 (at4 : Int), .int .i64 (dr.2.e : Int)] 72) = W4 := ⟨_, rfl⟩
            have hb4 : Hid (Below w3.heap.size w3 W4) := by show Below _ _ _; rw [← hW4]; exact ((Below.refl _ _).alloc (Nat.le_refl _) _).alloc (by simp) _
            have hbx : Hid (W4.heap[gx]? = some (.cells #[.int .i64 (code : Int), .int .u64 (xa : Int), .int .u64 (xb : Int), .int .i64 (al : Int), .slice Ax lx.length cx] 70 (0, 0))) := by show _ = _; rw [← hW4, ← hgx, Below.heap_alloc _ _ _ (by simp)]; exact heap_alloc_new w3 _
            have hbh : Hid (W4.heap[gx + 1]? = some (.cells #[.int .i64 (at4 : Int), .int .i64 (dr.2.e : Int)] 72 (0, 0))) := by
              show _ = _
              rw [← hW4, ← hgx]
              have := heap_alloc_new (w3.alloc (.cells #[.int .i64 (code : Int), .int .u64 (xa : Int), .int .u64 (xb : Int), .int .i64 (al : Int), .slice Ax lx.length cx] 70)) (.cells #[.int .i64 (at4 : Int), .int .i64 (dr.2.e : Int)] 72)
              simpa using this
            have hbr4 : Hid (Below wr.heap.size wr W4) := k2.out.trans (hb4.out.mono k2.out.size)
            have hwrg := hide k2.out.size
            have hrv4 := hide (hrv.out.below hbr4.out (blk_lt hrv.out.out))
            have hown4 := hide (own_only3 (S := []) hown.out (Only.of_below hbr4.out) (by simp))
            have hir4 := hide (hir.out.keep (S := []) (Only.of_below hbr4.out) (by simp))
            have hps4 := hide (own_only3 (S := []) hps.out (Only.of_below hbr4.out) (by simp))
            have hlab4 := hide (own_only3 (S := []) k1.out (Only.of_below hb4.out) (by simp))
            obtain ⟨AL, cL, rfl, hcL1, hcL2⟩ := own_form hir4.out.row
            have hil4 := hide (hir4.out.il rfl (fun y hy => (hyc.out y hy).1))
            have HS := hide (stands_any AL ys.length cL _ _ (by omega) W4 hil4)
            rw [hcame.out.stands] at HS
            have HGX := hide hgx; have HW4 := hide hW4
            clear hgx hW4
            have l1 := cell_blk hrv4.out.out 1
            have hh1 := cell_blk hbh.out 1
            have hh0 := cell_blk hbh.out 0
            simp at l1 hh1 hh0
            by_cases hcl : s.closed = true
            · rw [if_pos hcl] at HS
              have hy0 : 0 < ys.length := by
                apply Decidable.byContradiction
                intro hn
                have hn0 : ys = [] := List.eq_nil_of_length_eq_zero (by omega)
                subst hn0
                have := hcame.out.open_
                rw [hcl] at this
                cases this
              have hI := HIEND.out hcl
              have hR := hfin.out
              rw [hI, if_pos (by simp)] at hR
              have HR := hide hR
              have fy : decide ((0 : Int) < (ys.length : Int)) = true := by simp; omega
              clear hcl hI hR
              go_upto_region 28 with fail
              rw [HW4.out, HGX.out]
              go_wp2_with fail
              refine HS.out.mono ?_; rintro ee w5 ⟨rfl, hb5⟩
              have hrv5 := hide (hrv4.out.below hb5.out (blk_lt hrv4.out.out))
              have l1' := cell_blk hrv5.out.out 1
              simp at l1'
              clear HS
              have t0 := cell_blk hrv5.out.res 0
              have t1 := cell_blk hrv5.out.res 1
              have zt0 := frozen_blk hrv5.out.res 0
              have zt1 := frozen_blk hrv5.out.res 1
              simp at t0 t1
              obtain ⟨WE, hWE, hOE, hBE⟩ := rb_put hrv5.out.res (.slice none 0 0) (.slice none 0 0)
              have HWE := hide hWE; have HOE := hide hOE; have HBE := hide hBE
              clear hWE hOE hBE
              go_wp2_with fail
              rw [HWE.out]
              clear t0 t1 zt0 zt1
              have t0 := cell_blk HBE.out 0
              have t1 := cell_blk HBE.out 1
              simp at t0 t1
              refine bodyPost_ret (v := .tuple #[.agg #[.slice none 0 0, .slice none 0 0], .int .i64 (a' : Int), .int .i64 (4 : Int)]) (by simp [results, Try.results9, go_sem, t0, t1]) rfl ?_
              have hbE := hrv5.out.bel.trans (HOE.out.below (by have := hrv5.out.bel.size; have := blk_lt hrv5.out.res; omega) (by simp))
              first
                | exact RReadC.err (e := 4) (p := a') HGB.out hbE HR.out
                | exact RReadC.err (e := 4) (p := a') HGB.out ⟨hbE.os, hbE.tape, hbE.output, hbE.size, hbE.block⟩ HR.out
            · rw [if_neg hcl] at HS
              rw [codesD_len, dis_len] at HS
              have HCL : Hid (s.closed = false) := by show _ = _; simpa using hcl
              clear hcl
              by_cases he : dr.2.e = 0
              · have HE0 := hide he
                clear he
                go_upto_region 28 with fail
                rw [HW4.out, HGX.out]
                have he := HE0.out
                obtain ⟨rfl, rfl, rfl, rfl, rfl, rfl⟩ := k4.out he
                obtain ⟨kd1, kd2, kd3, kd4⟩ := hkd.out he
                rw [List.length_drop] at kd2
                obtain ⟨st, hst⟩ : ∃ st, stepN (codesD (dis ys) ++ [(dr.1 : Int)]) (dr.1 : Int) (dis ys).length s = st := ⟨_, rfl⟩
                have hstep := histep.out HCL.out he st hst
                have HSTEP := hide hstep; have HST := hide hst
                have hh1z : W4.cell? ⟨gx + 1, 1, none⟩ = some (.int .i64 0) := by rw [hh1, he]; rfl
                have HE := hide he
                have HKD := hide kd2
                clear he hstep hst hh1 k4 HIEND HIDEC histep hkd kd2
                go_wp2_with fail
                refine HS.out.mono ?_; rintro ee w5 ⟨rfl, hb5⟩
                have hrv5 := hide (hrv4.out.below hb5.out (blk_lt hrv4.out.out))
                have hown5 := hide (own_only3 (S := []) hown4.out (Only.of_below hb5.out) (by simp))
                have hir5 := hide (hir4.out.keep (S := []) (Only.of_below hb5.out) (by simp))
                have hps5 := hide (own_only3 (S := []) hps4.out (Only.of_below hb5.out) (by simp))
                have hlab5 := hide (own_only3 (S := []) hlab4.out (Only.of_below hb5.out) (by simp))
                have hbx5 := hide ((hb5.out.block gx (blk_lt hbx.out)).trans hbx.out)
                have hbh5 := hide ((hb5.out.block (gx + 1) (blk_lt hbh.out)).trans hbh.out)
                have e1 := cell_blk hrv5.out.out 1
                have h1' : w5.cell? ⟨gx + 1, 1, none⟩ = some (.int .i64 0) := by have := cell_blk hbh5.out 1; rw [HE.out] at this; simpa using this
                have c0 := cell_blk hbx5.out 0
                have c1 := cell_blk hbx5.out 1
                have c2 := cell_blk hbx5.out 2
                have c3 := cell_blk hbx5.out 3
                have c4 := cell_blk hbx5.out 4
                simp at e1 c0 c1 c2 c3 c4
                have hroom1 : Room ys.length 1 56 := room_of (by omega) (by omega)
                have hsz5 := blk_lt hrv5.out.out
                have hlvlt := own_lt hown.out
                have hpvlt := own_lt hps.out
                have hLvlt := own_lt hir.out.row
                clear HS l1 hh0 hh1z
                go_upto_region 34 with (at_builtin; refine wpList_push_n rfl _ _ rfl (go + 1) ri_elem (.slice AL ys.length cL) ys.length (insV ys) rfl w5 [.int .i64 (dr.1 : Int), .int .u64 (dr.2.a : Int), .int .u64 (dr.2.b : Int), .int .i64 (dr.2.al : Int), .slice Ax dr.2.l.length cx] 70 rfl hir5.out.row rfl rfl (by simp [Value.oneCell']) hroom1 hsz5 ?_; intro v' w6 ho6 hg6; have hg6' := hide hg6; have ho6' := hide ho6; clear hg6 ho6; obtain ⟨A6, c6, rfl, hc61, hc62⟩ := own_form ho6'.out; have hb6 := hide (hg6'.out.below hsz5 (own_ge hir5.out.row)); have x1 := cell_blk ((hb6.out.block go (by omega)).trans hrv5.out.out) 1; have zx1 := frozen_blk ((hb6.out.block go (by omega)).trans hrv5.out.out) 1; simp at x1)
                obtain ⟨W6, hW6⟩ : ∃ W6, w6.setCell ⟨go, 1, none⟩ (.slice A6 (ys.length + 1) c6) = W6 := ⟨_, rfl⟩
                have hset6 : Only [go] w6 W6 := by rw [← hW6]; exact Only.setCell w6 (p := ⟨go, 1, none⟩) (by simp) _
                have hrv6 := hide ((hrv5.out.below hb6.out (by omega)).setI (.slice A6 (ys.length + 1) c6))
                rw [hW6] at hrv6 ⊢
                have hir6 := hide ((hir5.out.push (.slice Ax dr.2.l.length cx, diOf dr) (own_base hlab5.out (fun q hq => by have := own_ge hlab5.out q hq; have := blk_lt hrv.out.out; omega)) (fun q hq => by have hge := own_ge hlab5.out q hq; exact ⟨fun x => by have := hlvlt _ x; omega, fun x => by have := hpvlt _ x; omega, fun x => by have := hLvlt _ x; omega⟩) (own_lt hown5.out) (own_lt hps5.out) hg6'.out ho6'.out).keep hset6 (by simp))
                have hown6 := hide (own_only3 (own_only3 hown5.out hg6'.out.only (fun q hq hm => (hir5.out.rowA q (by simpa using hm)).1 hq)) hset6 (fun q hq => by have := own_ge hown5.out q hq; simp; omega))
                have hps6 := hide (own_only3 (own_only3 hps5.out hg6'.out.only (fun q hq hm => (hir5.out.rowA q (by simpa using hm)).2 hq)) hset6 (fun q hq => by have := own_ge hps5.out q hq; simp; omega))
                have hbh6 := hide ((hset6.block (gx + 1) (by have := blk_lt hbh5.out; have := hb6.out.size; have := hg6'.out.by_.size; omega) (by have := hwrg.out; have := HGX.out; have := blk_lt hrv.out.out; simp; omega)).trans ((hg6'.out.only.block (gx + 1) (blk_lt hbh5.out) (by have hge := HGX.out; intro hm; have := hLvlt (gx + 1) (by simpa using hm); have := hwrg.out; omega)).trans hbh5.out))
                obtain ⟨Ap, cp, hpv, hcp1, hcp2⟩ := own_form hps6.out
                subst hpv
                have hszo6 : go + 1 ≤ W6.heap.size := blk_lt hrv6.out.out
                have hroom2 : Room ps.length 1 8 := room_of (by have := HPL.out; omega) (by omega)
                have HS6 := hide hset6
                clear hW6 hset6 x1 zx1 e1 h1' c0 c1 c2 c3 c4
                go_upto_region 35 with (at_builtin; refine wpList_push rfl _ _ rfl (go + 1) int_elem (.slice Ap ps.length cp) ps.length (ps.flatMap placeD) rfl W6 (.int .i64 (a' : Int)) 3 rfl hps6.out rfl rfl hroom2 hszo6 ?_; intro v' w7 ho7 hg7; have hg7' := hide hg7; have ho7' := hide ho7; clear hg7 ho7; obtain ⟨g7, c7, rfl, hc71, hc72⟩ := ho7'.out.form (by omega))
                have hb7 := hide (hg7'.out.below hszo6 (own_ge hps6.out))
                have hrv7 := hide (hrv6.out.below hb7.out (by omega))
                have hown7 := hide (own_only3 hown6.out hg7'.out.only (fun q hq hm => hlp.out q hq (by simpa using hm)))
                have hir7 := hide (hir6.out.stepped (nb := go) (vs' := lv) (vo' := .slice (some ⟨g7, 0, none⟩) (ps.length + 1) c7) ⟨hg7'.out.only.more (by simp; intro x hx; exact .inr (.inr hx)), Lies.refl _ _, hg7'.out.lies⟩)
                have hlp7 : Hid (∀ g, lv.ownBlock = some g → (Value.slice (some ⟨g7, 0, none⟩) (ps.length + 1) c7).ownBlock ≠ some g) := by show ∀ g, _; exact fun q hq => Lies.apart hg7'.out.lies (hlp.out q hq) (own_lt hown6.out q hq)
                have hps7 : Hid (w7.ownsRow (go + 1) 3 1 (.slice (some ⟨g7, 0, none⟩) (ps.length + 1) c7) (ps.length + 1) ((ps ++ [a']).flatMap placeD)) := own_cast ho7'.out rfl (by simp [placeD])
                have hbh7 := hide ((hg7'.out.only.block (gx + 1) (blk_lt hbh6.out) (by have hge := HGX.out; intro hm; have := hpvlt (gx + 1) (by simpa using hm); have := hwrg.out; omega)).trans hbh6.out)
                have hco7 : Hid (∀ y ∈ ys ++ [((.slice Ax dr.2.l.length cx : Value), diOf dr)], y.2.code ≤ 200000 ∧ y.2.l.length ≤ 100) := by
                  show ∀ y ∈ _, _
                  intro y hy
                  rcases List.mem_append.1 hy with hy | hy
                  · exact hyc.out y hy
                  · simp at hy; subst hy; exact ⟨kd3, kd4⟩
                have hcs7 : Hid (codesD (dis (ys ++ [(.slice Ax dr.2.l.length cx, diOf dr)])) = codesD (dis ys) ++ [(dr.1 : Int)]) := by show _ = _; rw [dis_snoc, codesD_snoc]; rfl
                have hil7 := hide (hir7.out.il (by rw [List.length_append]; rfl) (fun y hy => (hco7.out y hy).1))
                rw [hcs7.out] at hil7
                have HS2 := hide (stands_any A6 (ys.length + 1) c6 _ _ (by omega) w7 hil7)
                have f0 := cell_blk hrv7.out.out 1
                have f1 := cell_blk hbh7.out 0
                simp at f0 f1
                have hlen : Hid ((dis ys).length = ys.length) := dis_len ys
                by_cases hz : st.1 = 0
                · have hcm := hcame.out.step (c := (dr.1 : Int)) (by rw [codesD_len, HST.out]; exact hz)
                  rw [codesD_len, HST.out] at hcm
                  rw [hcm.stands] at HS2
                  have hI := HSTEP.out
                  rw [if_neg (fun x => x hz)] at hI
                  have HCM : Hid (Came (codesD (dis (ys ++ [((.slice Ax dr.2.l.length cx : Value), diOf dr)]))) st.2) := by show Came _ _; rw [hcs7.out]; exact hcm
                  have HINS : Hid (insL bs fu (a' + dr.2.k) st.2 (dis (ys ++ [((.slice Ax dr.2.l.length cx : Value), diOf dr)])) = I) := by show _ = _; rw [dis_snoc]; exact hI.symm
                  rw [List.length_append, codesD_len, hlen.out] at HS2
                  have hkd2 := HKD.out
                  clear hz hcm hI
                  cases hc2 : st.2.closed with
                  | true =>
                    rw [hc2, if_pos rfl] at HS2
                    have HC2 := hide hc2; clear hc2
                    go_wp2_with fail
                    refine HS2.out.mono ?_; rintro ee w8 ⟨rfl, hb8⟩
                    have hrv8 := hide (hrv7.out.below hb8.out (blk_lt hrv7.out.out))
                    have hown8 := hide (own_only3 (S := []) hown7.out (Only.of_below hb8.out) (by simp))
                    have hir8 := hide (hir7.out.keep (S := []) (Only.of_below hb8.out) (by simp))
                    have hps8 : Hid (w8.ownsRow (go + 1) 3 1 (.slice (some ⟨g7, 0, none⟩) (ps.length + 1) c7) (ps ++ [a']).length ((ps ++ [a']).flatMap placeD)) := own_cast (own_only3 (S := []) hps7.out (Only.of_below hb8.out) (by simp)) (by simp) rfl
                    have hbh8 := hide ((hb8.out.block (gx + 1) (blk_lt hbh7.out)).trans hbh7.out)
                    have f1' := cell_blk hbh8.out 0
                    have f0' := cell_blk hrv8.out.out 1
                    simp at f1' f0'
                    clear HS2 f0 f1
                    go_wp2_with fail
                    go_roundw
                    case rel =>
                      refine ⟨a' + dr.2.k, .slice A6 (ys.length + 1) c6, st.2, ys ++ [((.slice Ax dr.2.l.length cx : Value), diOf dr)], fu, ps ++ [a'], by go_num, by have := HKD.out; omega, hrv8, hown8, hir8, hps8, by simp [HPL.out], hlp7, by simp; omega, hco7, HCM, by omega, HINS⟩
                    case measure => simp [intOf] <;> omega
                  | false =>
                    rw [hc2, if_neg (by simp)] at HS2
                    have HC2 := hide hc2; clear hc2
                    go_wp2_with fail
                    refine HS2.out.mono ?_; rintro ee w8 ⟨rfl, hb8⟩
                    have hrv8 := hide (hrv7.out.below hb8.out (blk_lt hrv7.out.out))
                    have hown8 := hide (own_only3 (S := []) hown7.out (Only.of_below hb8.out) (by simp))
                    have hir8 := hide (hir7.out.keep (S := []) (Only.of_below hb8.out) (by simp))
                    have hps8 : Hid (w8.ownsRow (go + 1) 3 1 (.slice (some ⟨g7, 0, none⟩) (ps.length + 1) c7) (ps ++ [a']).length ((ps ++ [a']).flatMap placeD)) := own_cast (own_only3 (S := []) hps7.out (Only.of_below hb8.out) (by simp)) (by simp) rfl
                    have hbh8 := hide ((hb8.out.block (gx + 1) (blk_lt hbh7.out)).trans hbh7.out)
                    have f1' := cell_blk hbh8.out 0
                    have f0' := cell_blk hrv8.out.out 1
                    simp at f1' f0'
                    clear HS2 f0 f1
                    go_wp2_with fail
                    go_roundw
                    case rel =>
                      refine ⟨a' + dr.2.k, .slice A6 (ys.length + 1) c6, st.2, ys ++ [((.slice Ax dr.2.l.length cx : Value), diOf dr)], fu, ps ++ [a'], by go_num, by have := HKD.out; omega, hrv8, hown8, hir8, hps8, by simp [HPL.out], hlp7, by simp; omega, hco7, HCM, by omega, HINS⟩
                    case measure => simp [intOf] <;> omega
                · have hbd := hcame.out.bad (c := (dr.1 : Int)) (by rw [codesD_len, HST.out]; exact hz)
                  rw [codesD_len, HST.out, hlen.out] at hbd
                  rw [hbd] at HS2
                  have hI := HSTEP.out
                  rw [if_pos hz] at hI
                  have hR := hfin.out
                  rw [hI, if_pos hz] at hR
                  have HR := hide hR
                  have fz : ((st.1 : Int) != 0) = true := by simp; omega
                  clear hz hbd hI hR
                  go_wp2_with fail
                  refine HS2.out.mono ?_; rintro ee w8 ⟨rfl, hb8⟩
                  have hrv8 := hide (hrv7.out.below hb8.out (blk_lt hrv7.out.out))
                  have hps8 := hide (own_only3 (S := []) hps7.out (Only.of_below hb8.out) (by simp))
                  have f0' := cell_blk hrv8.out.out 1
                  simp at f0'
                  have hcell := hps8.out.cells (g := g7) rfl ys.length (.int .i64 (a' : Int)) (by rw [List.flatMap_append, List.getElem?_append_right (by rw [flatMap_len (size := 1) (fun _ => rfl), HPL.out]; omega), flatMap_len (size := 1) (fun _ => rfl), HPL.out]; simp [placeD])
                  rw [show (⟨g7, 0, none⟩ : Addr).add ys.length = ⟨g7, ys.length, none⟩ from by unfold Addr.add; split <;> simp_all] at hcell
                  have hidx : (ys.length : Int) < (ps.length : Int) + 1 := by have := HPL.out; omega
                  have hne1 : ¬ gb = g7 := by have := hrv.out.lt; omega
                  have hne2 : ¬ g7 = gb := by omega
                  clear HS2 f0 f1
                  have t0 := cell_blk hrv8.out.res 0
                  have t1 := cell_blk hrv8.out.res 1
                  have zt0 := frozen_blk hrv8.out.res 0
                  have zt1 := frozen_blk hrv8.out.res 1
                  simp at t0 t1
                  obtain ⟨WE, hWE, hOE, hBE⟩ := rb_put hrv8.out.res (.slice none 0 0) (.slice none 0 0)
                  have HWE := hide hWE; have HOE := hide hOE; have HBE := hide hBE
                  clear hWE hOE hBE
                  go_upto_region 37 with fail
                  go_region
                  rw [HWE.out]
                  clear t0 t1 zt0 zt1
                  have t0 := cell_blk HBE.out 0
                  have t1 := cell_blk HBE.out 1
                  simp at t0 t1
                  go_wp2_with fail
                  refine bodyPost_ret (v := .tuple #[.agg #[.slice none 0 0, .slice none 0 0], .int .i64 (a' : Int), .int .i64 (st.1 : Int)]) (by simp [results, Try.results9, go_sem, t0, t1]) rfl ?_
                  have hbE := hrv8.out.bel.trans (HOE.out.below (by have := hrv8.out.bel.size; have := blk_lt hrv8.out.res; omega) (by simp))
                  first
                    | exact RReadC.err (e := st.1) (p := a') HGB.out hbE HR.out
                    | exact RReadC.err (e := st.1) (p := a') HGB.out ⟨hbE.os, hbE.tape, hbE.output, hbE.size, hbE.block⟩ HR.out
              · have hI := HIDEC.out HCL.out he
                have hR := hfin.out
                rw [hI, if_pos he] at hR
                have HR := hide hR
                have fe : ((dr.2.e : Int) != 0) = true := by simp; omega
                clear he hI hR
                go_upto_region 28 with fail
                rw [HW4.out, HGX.out]
                go_wp2_with fail
                refine HS.out.mono ?_; rintro ee w5 ⟨rfl, hb5⟩
                have hrv5 := hide (hrv4.out.below hb5.out (blk_lt hrv4.out.out))
                have hbh5 := hide ((hb5.out.block (gx + 1) (blk_lt hbh.out)).trans hbh.out)
                have h1' := cell_blk hbh5.out 1
                simp at h1'
                have hgbx : gb < gx + 1 := by have := k2.out.size; have := HGX.out; have := blk_lt hrv.out.res; omega
                have hne1 : ¬ gb = gx + 1 := by omega
                have hne2 : ¬ gx + 1 = gb := by omega
                clear HS
                have t0 := cell_blk hrv5.out.res 0
                have t1 := cell_blk hrv5.out.res 1
                have zt0 := frozen_blk hrv5.out.res 0
                have zt1 := frozen_blk hrv5.out.res 1
                simp at t0 t1
                obtain ⟨WE, hWE, hOE, hBE⟩ := rb_put hrv5.out.res (.slice none 0 0) (.slice none 0 0)
                have HWE := hide hWE; have HOE := hide hOE; have HBE := hide hBE
                clear hWE hOE hBE
                go_upto_region 32 with fail
                go_region
                rw [HWE.out]
                clear t0 t1 zt0 zt1
                have t0 := cell_blk HBE.out 0
                have t1 := cell_blk HBE.out 1
                simp at t0 t1
                go_wp2_with fail
                refine bodyPost_ret (v := .tuple #[.agg #[.slice none 0 0, .slice none 0 0], .int .i64 (a' : Int), .int .i64 (dr.2.e : Int)]) (by simp [results, Try.results9, go_sem, t0, t1]) rfl ?_
                have hbE := hrv5.out.bel.trans (HOE.out.below (by have := hrv5.out.bel.size; have := blk_lt hrv5.out.res; omega) (by simp))
                first
                  | exact RReadC.err (e := dr.2.e) (p := a') HGB.out hbE HR.out
                  | exact RReadC.err (e := dr.2.e) (p := a') HGB.out ⟨hbE.os, hbE.tape, hbE.output, hbE.size, hbE.block⟩ HR.out
          · have hae : a' = bs.length := by omega
            obtain ⟨AL, cL, rfl, hcL1, hcL2⟩ := own_form hir.out.row
            have hil := hide (hir.out.il rfl (fun y hy => (hyc.out y hy).1))
            have HS := hide (stands_any AL ys.length cL _ _ (by omega) wr hil)
            rw [hcame.out.stands] at HS
            have hie := insL_end (bs := bs) (f := fu) (s := s) (xs := dis ys) (show bs.length ≤ a' by omega)
            rw [hins.out] at hie
            have HIE := hide hie; have HAE := hide hae
            have l1 := cell_blk hrv.out.out 1
            simp at l1
            clear hie hae hins
            by_cases hcl : s.closed = true
            · rw [if_pos hcl] at HS
              have hy0 : 0 < ys.length := by
                apply Decidable.byContradiction
                intro hn
                have hn0 : ys = [] := List.eq_nil_of_length_eq_zero (by omega)
                subst hn0
                have := hcame.out.open_
                rw [hcl] at this
                cases this
              have hI := HIE.out
              rw [if_pos hcl] at hI
              have hR := hfin.out
              rw [hI, if_neg (by simp)] at hR
              have HR := hide hR
              have fy3 : ¬ ys = [] := by intro h; subst h; simp at hy0
              have fy : ((ys.length : Int) == 0) = false := by simpa using fy3
              have fy2 : ys.isEmpty = false := by simpa using fy3
              obtain ⟨Alv, clv, rfl, hclv1, hclv2⟩ := own_form hown.out
              clear hcl hI hR
              go_wp2_with fail
              refine HS.out.mono ?_; rintro ee w5 ⟨rfl, hb5⟩
              have hrv5 := hide (hrv.out.below hb5.out (blk_lt hrv.out.out))
              have hown5 := hide (own_only3 (S := []) hown.out (Only.of_below hb5.out) (by simp))
              have hir5 := hide (hir.out.keep (S := []) (Only.of_below hb5.out) (by simp))
              have l0' := cell_blk hrv5.out.out 0
              have l1' := cell_blk hrv5.out.out 1
              have t0 := cell_blk hrv5.out.res 0
              have t1 := cell_blk hrv5.out.res 1
              have zt0 := frozen_blk hrv5.out.res 0
              have zt1 := frozen_blk hrv5.out.res 1
              simp at l0' l1' t0 t1
              obtain ⟨WE, hWE, hOE, hBE⟩ := rb_put hrv5.out.res (.slice Alv locs.length clv) (.slice AL ys.length cL)
              have HWE := hide hWE; have HOE := hide hOE; have HBE := hide hBE
              clear hWE hOE hBE HS
              go_wp2_with fail
              rw [HWE.out]
              clear t0 t1 zt0 zt1
              have t0 := cell_blk HBE.out 0
              have t1 := cell_blk HBE.out 1
              simp at t0 t1
              refine bodyPost_ret (v := .tuple #[.agg #[.slice Alv locs.length clv, .slice AL ys.length cL], .int .i64 0, .int .i64 0]) (by simp [results, Try.results9, go_sem, t0, t1]) rfl ?_
              have hbE := hrv5.out.bel.trans (HOE.out.below (by have := hrv5.out.bel.size; have := blk_lt hrv5.out.res; omega) (by simp))
              have hgo := hrv5.out.lt
              rw [HR.out]
              have hk1 := own_base (base' := gb) (own_only3 hown5.out HOE.out (fun q hq => by have := own_ge hown5.out q hq; simp; omega)) (fun q hq => by have := own_ge hown5.out q hq; omega)
              have hk2 := (hir5.out.keep HOE.out (by simp; omega)).base (show gb ≤ go + 1 by omega)
              have hk3 : Hid (∀ y ∈ ys, y.2.l.length ≤ 100) := by show ∀ y ∈ _, _; exact fun y hy => (hyc.out y hy).2
              rw [← HGB.out] at hk1 hk2 hbE
              exact ⟨.slice Alv locs.length clv, .slice AL ys.length cL, _, _, ys, rfl, hbE, hk1, hk2, rfl, by omega, hk3, hlc⟩
            · rw [if_neg hcl] at HS
              rw [codesD_len, dis_len] at HS
              have hI := HIE.out
              rw [if_neg hcl, HAE.out] at hI
              have hR := hfin.out
              rw [hI, if_pos (by simp)] at hR
              have HR := hide hR
              clear hcl hI hR
              go_wp2_with fail
              refine HS.out.mono ?_; rintro ee w5 ⟨rfl, hb5⟩
              have hrv5 := hide (hrv.out.below hb5.out (blk_lt hrv.out.out))
              have l1' := cell_blk hrv5.out.out 1
              simp at l1'
              clear HS
              have t0 := cell_blk hrv5.out.res 0
              have t1 := cell_blk hrv5.out.res 1
              have zt0 := frozen_blk hrv5.out.res 0
              have zt1 := frozen_blk hrv5.out.res 1
              simp at t0 t1
              obtain ⟨WE, hWE, hOE, hBE⟩ := rb_put hrv5.out.res (.slice none 0 0) (.slice none 0 0)
              have HWE := hide hWE; have HOE := hide hOE; have HBE := hide hBE
              clear hWE hOE hBE
              go_wp2_with fail
              rw [HWE.out]
              clear t0 t1 zt0 zt1
              have t0 := cell_blk HBE.out 0
              have t1 := cell_blk HBE.out 1
              simp at t0 t1
              refine bodyPost_ret (v := .tuple #[.agg #[.slice none 0 0, .slice none 0 0], .int .i64 (bs.length : Int), .int .i64 (4 : Int)]) (by simp [results, Try.results9, go_sem, t0, t1]) rfl ?_
              have hbE := hrv5.out.bel.trans (HOE.out.below (by have := hrv5.out.bel.size; have := blk_lt hrv5.out.res; omega) (by simp))
              exact RReadC.err (e := 4) (p := bs.length) HGB.out hbE HR.out
  · have fz : ((q2 : Int) != 0) = true := by simp; omega
    have HR := hide (readR_num HQ.out hz)
    clear hz
    have t0 := cell_blk hg1.out 0
    have t1 := cell_blk hg1.out 1
    have zt0 := frozen_blk hg1.out 0
    have zt1 := frozen_blk hg1.out 1
    simp at t0 t1
    obtain ⟨WE, hWE, hOE, hBE⟩ := rb_put hg1.out (.slice none 0 0) (.slice none 0 0)
    have HWE := hide hWE; have HOE := hide hOE; have HBE := hide hBE
    clear hWE hOE hBE
    go_wp2_with fail
    rw [HWE.out]
    clear t0 t1 zt0 zt1
    have t0 := cell_blk HBE.out 0
    have t1 := cell_blk HBE.out 1
    simp at t0 t1
    refine bodyPost_ret (v := .tuple #[.agg #[.slice none 0 0, .slice none 0 0], .int .i64 ((0 : Nat) : Int), .int .i64 (q2 : Int)]) (by simp [results, Try.results9, go_sem, t0, t1]) rfl ?_
    exact RReadC.err HGB.out (hbel1.out.trans (HOE.out.below (by omega) (by simp))) HR.out
end Go.Proofs.Ytdhmkapknaphpaa
