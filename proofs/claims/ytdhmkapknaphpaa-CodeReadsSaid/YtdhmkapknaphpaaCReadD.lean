/-
  code: a body's reader: instrs: contract.
-/
import Derived.Test.YtdhmkapknaphpaaCReadC
import Derived.Deep.DeepCutAuto
namespace Go.Proofs.Ytdhmkapknaphpaa
open Go.RowKit
set_option linter.unusedVariables false

/-- what instrs leaves -/
structure InsC (w : World) (rb g f c : Nat) (A : Option Addr) (bs : List UInt8) (lv : Value) (res : Nat × Nat × List DI) (en : Ending) (w' : World) : Prop where
  out : ∃ (r' : Int) (at' : Nat) (iv' : Value) (bad' : Int), en = .returned (.tuple #[]) ∧ Hid (CR w' rb g f c A bs r' at' lv iv' bad' (res.1 : Int)) ∧ Hid (Only [f, g, rb] w w') ∧
    Hid (res.1 ≠ 0 → bad' = (res.2.1 : Int)) ∧ Hid (res.1 = 0 → ∃ ys vs vo, IR w' w.heap.size 27 vs vo iv' ys ∧ dis ys = res.2.2 ∧ ys.length ≤ 1000 ∧ ∀ y ∈ ys, y.2.l.length ≤ 100)

/-- how far the instructions have been read -/
structure IX (wr : World) (nb : Nat) (bs : List UInt8) (Al : Option Addr) (n cl : Nat) (vs vo : Value) (s : NS) (at' k : Nat) (bad' e' : Int) (r' : Int) (res : Nat × Nat × List DI) : Prop where
  out : (e' = 0 ∧ k ≤ at' ∧ 0 ≤ r' ∧ r' ≤ 20 + 1340 * (at' : Int) ∧ n = k ∧ ∃ (fu : Nat) (ys : List (Value × DI)), Hid (IR wr (nb + 1) 27 vs vo (.slice Al n cl) ys) ∧ ys.length = k ∧ Hid (∀ y ∈ ys, y.2.code ≤ 200000 ∧ y.2.l.length ≤ 100) ∧ Hid (Came (codesD (dis ys)) s) ∧ Hid (NSz k s) ∧ bs.length < at' + fu ∧ Hid (insL bs fu at' s (dis ys) = res)) ∨
    (e' ≠ 0 ∧ (res.1 : Int) = e' ∧ bad' = (res.2.1 : Int))

theorem IR.base {w : World} {base base' : Nat} {e : TypeId} {vs vo v : Value} {ys : List (Value × DI)} (h : IR w base e vs vo v ys) (hb : base' ≤ base) : IR w base' e vs vo v ys :=
  ⟨own_base h.row (fun g hg => by have := own_ge h.row g hg; omega), fun y hy => own_base (h.labs y hy) (fun g hg => by have := own_ge (h.labs y hy) g hg; omega), h.rowA, h.labA⟩

set_option maxRecDepth 100000 in
set_option maxHeartbeats 6400000 in
theorem rinstrs_any (rb g f c : Nat) (A : Option Addr) (bs : List UInt8) (r : Int) (at_ : Nat) (lv : Value) (locs : List UInt8) (bad : Int) (w : World) (h : Hid (CR w rb g f c A bs r at_ lv (.slice none 0 0) bad 0)) (ho : Hid (w.ownsRow (rb + 1) 78 1 lv locs.length (locs.map B)))
    (hr1 : 0 ≤ r) (hr2 : r ≤ 20 + 1340 * (at_ : Int)) (hl : bs.length ≤ 400) (h2 : at_ ≤ bs.length) :
    Calls Try.prog 17 #[.pointer (some ⟨rb, 0, none⟩)] w (InsC w rb g f c A bs lv (insL bs (bs.length + 1) at_ initN [])) := by
  obtain ⟨res, hres⟩ : ∃ res, insL bs (bs.length + 1) at_ initN [] = res := ⟨_, rfl⟩
  rw [hres]
  have HRES := hide hres; clear hres
  have hrb := blk_lt h.out.blk
  have hgl := h.out.lt
  have hfl := h.out.cu.lt
  obtain ⟨nb, hnb⟩ : ∃ nb, w.heap.size = nb := ⟨_, rfl⟩
  obtain ⟨W, hW⟩ : ∃ W, w.alloc (.cells #[.slice none 0 0, .slice none 0 0, .slice none 0 0, .bool false, .int .i64 0] 53) = W := ⟨_, rfl⟩
  have hbW : Below nb w W := by rw [← hW, ← hnb]; exact (Below.refl _ _).alloc (Nat.le_refl _) _
  have hrbn : rb < nb := by omega
  have hneW : NE W nb none 0 0 (.slice none 0 0) (.slice none 0 0) initN := ⟨by rw [← hW, ← hnb]; exact heap_alloc_new w _, own_nil _ _ _ _, own_nil _ _ _ _, fun g hg => by cases hg⟩
  have hcrW := hide (h.out.below hbW (by omega))
  have hoW : Hid (Only [f, g, rb] w W) := Only.of_below (by rw [hnb]; exact hbW)
  have hix : Hid (IX W nb bs none 0 0 (.slice none 0 0) (.slice none 0 0) initN at_ 0 bad 0 r res) := .mk (.inl ⟨rfl, by omega, hr1, hr2, rfl, bs.length + 1, [], IR.nil _ _ _ _ _, rfl, (by show ∀ _, _; simp), Came.init, ⟨by simp [initN], by simp [initN], by simp [initN]⟩, by omega, HRES⟩)
  have HNE := hide hneW; have HNB := hide hnb; have HW := hide hW
  clear hneW hW hnb hbW
  go_enter Try.func17, Try.ntmps17
  go_wp2_with fail
  rw [HW.out, HNB.out]
  go_loopw [3] (fun i wr => ∃ (k : Nat) (Al : Option Addr) (n cl : Nat) (vs vo : Value) (s : NS) (r' : Int) (at' : Nat) (bad' e' : Int), i = .int .i64 (k : Int) ∧ k ≤ 500 ∧ Hid (CR wr rb g f c A bs r' at' lv (.slice none 0 0) bad' e') ∧ Hid (NE wr nb Al n cl vs vo s) ∧ Hid (Only [f, g, rb] w wr) ∧ at' ≤ bs.length ∧ Hid (IX wr nb bs Al n cl vs vo s at' k bad' e' r' res)) (fun i _ => 1000 - (intOf i).toNat)
  case atStart => exact ⟨0, none, 0, 0, _, _, _, r, at_, bad, 0, rfl, by omega, hcrW, HNE, hoW, h2, hix⟩
  case round =>
    clear HNE hoW hcrW hix
    obtain ⟨k, Al, n, cl, vs, vo, s, r', at', bad', e', rfl, hk500, hcr, hne, honly, hat', hix⟩ := hrel
    have y0 := cell_blk hcr.out.blk 0
    have y4 := cell_blk hcr.out.blk 4
    simp at y0 y4
    by_cases he : e' = 0
    · subst he
      obtain ⟨hka, hr0, hrr, rfl, fu, ys, hir, hyl, hyc, hcame, hnsz, hfu, hins⟩ : k ≤ at' ∧ 0 ≤ r' ∧ r' ≤ 20 + 1340 * (at' : Int) ∧ n = k ∧ ∃ (fu : Nat) (ys : List (Value × DI)), Hid (IR wr (nb + 1) 27 vs vo (.slice Al n cl) ys) ∧ ys.length = k ∧ Hid (∀ y ∈ ys, y.2.code ≤ 200000 ∧ y.2.l.length ≤ 100) ∧ Hid (Came (codesD (dis ys)) s) ∧ Hid (NSz k s) ∧ bs.length < at' + fu ∧ Hid (insL bs fu at' s (dis ys) = res) := by
        rcases hix.out.out with ⟨_, a⟩ | ⟨a, _⟩
        · exact a
        · exact absurd rfl a
      clear hix
      obtain ⟨fu, rfl⟩ : ∃ u, fu = u + 1 := ⟨fu - 1, by omega⟩
      have HYL := hide hyl; clear hyl
      have HLF := hide (left_o g f 0 (bs.length : Int) (at' : Int) wr (hide hcr.out.cu) (by omega) (by omega) (by omega))
      by_cases hlt : at' < bs.length
      · have fl : decide ((0 : Int) < (bs.length : Int) - (at' : Int)) = true := by simp; omega
        have fl2 : decide (at' < bs.length) = true := by simp; omega
        have fl3 : decide ((at' : Int) < (bs.length : Int)) = true := by simp; omega
        have hins' := hins.out
        clear fl3
        go_wp2_with fail
        refine HLF.out.mono ?_; rintro ee w2 ⟨rfl, ho2⟩
        have hcr2 := hide (hcr.out.keep ho2.out (by simp) (by simp) (by simp) (by simp))
        have hne2 := hide (hne.out.quiet ho2.out)
        have hir2 := hide (hir.out.keep ho2.out (by simp))
        have x0 := cell_blk hcr2.out.blk 0
        simp at x0
        clear y0 y4
        have HP := hide (place_at g f 0 (bs.length : Int) (at' : Int) w2 (hide hcr2.out.cu))
        go_wp2_with fail
        refine HP.out.mono ?_; rintro ee w3 ⟨rfl, hb3⟩
        have hcr3 := hide (hcr2.out.below hb3.out (blk_lt hcr2.out.blk))
        have hne3 := hide (hne2.out.quiet (Only.of_below hb3.out))
        have hir3 := hide (hir2.out.keep (S := []) (Only.of_below hb3.out) (by simp))
        have ho3 : Hid (Only [f, g, rb] w w3) := (honly.out.trans (ho2.out.more (by simp))).trans (Only.of_below hb3.out)
        have x0' := cell_blk hcr3.out.blk 0
        simp at x0'
        clear x0
        have HD := hide (decode_step g f c A bs r' (-1) 0 (bs.length : Int) (at' : Int) w3 (hide hcr3.out.fl_) (hide hcr3.out.cu) hr0 (by omega) (by omega) (by omega) (by omega) (by omega) (by omega))
        rw [partB_rest] at HD
        go_wp2_with fail
        refine HD.out.mono ?_; rintro ee w4 ⟨code, a, b, al, Ax, cx, lx, r4, at4, e4, rfl, k1, k2, k3, k4, k5, k6, k7, k8, k9, k10, k11⟩
        obtain ⟨at5, rfl⟩ : ∃ n : Nat, at4 = n := ⟨at4.toNat, by omega⟩
        have hcr4 := hide (hcr3.out.moved k3.out k1.out k2.out)
        have hne4 := hide (hne3.out.keep k3.out (by simp; omega))
        have hir4 := hide (hir3.out.keep k3.out (by simp; omega))
        have ho4 : Hid (Only [f, g, rb] w w4) := ho3.out.trans (k3.out.more (by simp))
        obtain ⟨gx, hgx⟩ : ∃ gx, w4.heap.size = gx := ⟨_, rfl⟩
        obtain ⟨W4, hW4⟩ : ∃ W4, w4.alloc (.cells #[.int .i64 (code : Int), .int .u64 (a : Int), .int .u64 (b : Int), .int .i64 (al : Int), .slice Ax lx.length cx] 27) = W4 := ⟨_, rfl⟩
        have hb4 : Below gx w4 W4 := by rw [← hW4, ← hgx]; exact (Below.refl _ _).alloc (Nat.le_refl _) _
        have hbx : Hid (W4.heap[gx]? = some (.cells #[.int .i64 (code : Int), .int .u64 (a : Int), .int .u64 (b : Int), .int .i64 (al : Int), .slice Ax lx.length cx] 27 (0, 0))) := by show _ = _; rw [← hW4, ← hgx]; exact heap_alloc_new w4 _
        have hb4' : Below w4.heap.size w4 W4 := by rw [hgx]; exact hb4
        have hcr5 := hide (hcr4.out.below hb4' (blk_lt hcr4.out.blk))
        have hne5 := hide (hne4.out.quiet (Only.of_below hb4'))
        have hir5 := hide (hir4.out.keep (S := []) (Only.of_below hb4') (by simp))
        have hlab5 := hide (own_only3 (S := []) k4.out (Only.of_below hb4') (by simp))
        have ho5 : Hid (Only [f, g, rb] w W4) := ho4.out.trans (Only.of_below hb4')
        have hsz3 : nb + 1 ≤ w3.heap.size := blk_lt hne3.out.blk
        have hszx : w3.heap.size ≤ gx := by rw [← hgx]; exact k3.out.size
        have HGX := hide hgx; have HW4 := hide hW4
        clear hgx hW4 hb4 hb4' x0'
        have n3 := cell_blk hne5.out.blk 3
        simp at n3
        have q4 := cell_blk hcr5.out.blk 4
        simp at q4
        by_cases hcl : s.closed = true
        · rw [hcl] at n3
          have hre := insL_closed (f := fu) (xs := dis ys) hlt hcl
          rw [hins'] at hre
          subst hre
          have HF := hide (rfail_any rb g f c A bs r4 at5 lv (.slice none 0 0) bad' 0 (at' : Int) 4 W4 hcr5)
          clear hcl hins' hins
          go_upto_region 6 with fail
          rw [HW4.out]
          go_wp2_with fail
          refine HF.out.mono ?_; rintro ee w6 ⟨rfl, m1, m2⟩
          rw [errR_zero, badR_zero (by omega)] at m1
          go_wp2_with fail
          go_end0
          exact ⟨r4, at5, _, _, rfl, m1, ho5.out.trans (m2.out.more (by simp)), (fun _ => rfl), (fun x => absurd x (by simp))⟩
        · have hcl' : s.closed = false := by simpa using hcl
          rw [hcl'] at n3
          have HCL := hide hcl'
          clear hcl hcl'
          have HF := hide (rfail_any rb g f c A bs r4 at5 lv (.slice none 0 0) bad' 0 (at' : Int) e4 W4 hcr5)
          by_cases he4 : e4 = 0
          · subst he4
            obtain ⟨g1, rfl, rfl, rfl, rfl, rfl, rfl⟩ : (decodeR (bs.drop at')).2.e = 0 ∧ at5 = at' + (decodeR (bs.drop at')).2.k ∧ code = (decodeR (bs.drop at')).1 ∧ a = (decodeR (bs.drop at')).2.a ∧ b = (decodeR (bs.drop at')).2.b ∧ al = (decodeR (bs.drop at')).2.al ∧ lx = (decodeR (bs.drop at')).2.l := by
              rcases k11.out with ⟨_, x1, x2, x3, x4, x5, x6, x7⟩ | ⟨x, _⟩
              · exact ⟨x1, by omega, x3, x4, x5, x6, x7⟩
              · exact absurd rfl x
            clear k11
            obtain ⟨kd1, kd2, kd3, kd4⟩ := decodeR_k (bs.drop at') g1
            rw [List.length_drop] at kd2
            obtain ⟨st, hst⟩ : ∃ st, stepN (codesD (dis ys) ++ [((decodeR (bs.drop at')).1 : Int)]) (decodeR (bs.drop at')).1 (dis ys).length s = st := ⟨_, rfl⟩
            have hstep := insL_step (f := fu) (xs := dis ys) hlt HCL.out g1 st hst
            rw [hins'] at hstep
            rw [dis_len, HYL.out] at hst
            have G1 := hide g1
            clear hins' hins
            clear g1 HD
            generalize hdr : decodeR (bs.drop at') = dr at *
            have HDR := hide hdr; clear hdr
            have HSTEP := hide hstep; have HST := hide hst
            clear hstep hst
            rw [errR_zero, badR_none] at HF
            go_upto_region 6 with fail
            rw [HW4.out, HGX.out]
            go_wp2_with fail
            refine HF.out.mono ?_; rintro ee w5 ⟨rfl, m1, m2⟩
            have hne6 := hide (hne5.out.keep m2.out (by simp; omega))
            have hir6 := hide (hir5.out.keep m2.out (by simp; omega))
            have hlab6 := hide (own_only3 hlab5.out m2.out (fun q hq => by have := own_ge hlab5.out q hq; simp; omega))
            have hbx6 := hide ((m2.out.block gx (blk_lt hbx.out) (by simp; omega)).trans hbx.out)
            have ho6 : Hid (Only [f, g, rb] w w5) := ho5.out.trans (m2.out.more (by simp))
            have t0 := cell_blk hbx6.out 0
            have t1 := cell_blk hbx6.out 1
            have t2 := cell_blk hbx6.out 2
            have t3 := cell_blk hbx6.out 3
            have t4 := cell_blk hbx6.out 4
            have v0 := cell_blk hne6.out.blk 0
            simp at t0 t1 t2 t3 t4 v0
            have hnb5 := blk_lt hne6.out.blk
            have hroom : Room n 1 56 := room_of (by omega) (by omega)
            have hrow6 : Hid (w5.ownsRow (nb + 1) 27 5 (.slice Al n cl) n (insV ys)) := own_cast hir6.out.row HYL.out rfl
            clear n3 q4
            go_upto_region 10 with fail
            go_region_law (refine step_push rfl (.tmp 53) (.tmp 55) rfl (nb + 1) ins_elem (.slice Al n cl) n (insV ys) (by simp [Act.eval]) w5 [.int .i64 (dr.1 : Int), .int .u64 (dr.2.a : Int), .int .u64 (dr.2.b : Int), .int .i64 (dr.2.al : Int), .slice Ax dr.2.l.length cx] 27 (by rfl) hrow6.out (by simp [Act.eval]) rfl (by simp [Value.oneCell']) hroom hnb5 ?_; intro v' w6 ho6' hg6; have hg6' := hide hg6; have ho6'' := hide ho6'; clear hg6 ho6'; obtain ⟨Al2, cl2, rfl, hcl1, hcl2⟩ := own_form ho6''.out; have hb6 := hide (hg6'.out.below hnb5 (own_ge hrow6.out)); have d0 := cell_blk ((hb6.out.block nb (by omega)).trans hne6.out.blk) 0; have zd0 := frozen_blk ((hb6.out.block nb (by omega)).trans hne6.out.blk) 0; simp at d0)
            all_goals
              have hlt4 := own_lt hne3.out.sp
              have hlt5 := own_lt hne3.out.op
              have hlt6 := own_lt hir3.out.row
              have hpush := hir6.out.push (.slice Ax dr.2.l.length cx, diOf dr) (own_base hlab6.out (fun q hq => by have := own_ge hlab6.out q hq; omega)) (fun q hq => by have hge := own_ge hlab6.out q hq; exact ⟨fun x => by have := hlt4 _ x; omega, fun x => by have := hlt5 _ x; omega, fun x => by have := hlt6 _ x; omega⟩) (own_lt hne6.out.sp) (own_lt hne6.out.op) hg6'.out (own_cast ho6''.out (by rw [HYL.out]) rfl)
              have hne7 := hne6.out.listed hir6.out hg6'.out
              have hset : Only [nb] w6 (w6.setCell ⟨nb, 0, none⟩ (.slice Al2 (n + 1) cl2)) := Only.setCell w6 (p := ⟨nb, 0, none⟩) (by simp) _
              have hir7 := hpush.keep hset (by simp)
              have hcr7 := (m1.out.below hb6.out (by omega)).keep hset (by simp; omega) (by simp; omega) (by simp; omega) (by simp; omega)
              have hsz6 := hb6.out.size
              have ho7 := ((ho6.out.then_below (d := w6) (by rw [HNB.out]; exact hb6.out.mono (by omega)))).then_below (d := w6.setCell ⟨nb, 0, none⟩ (.slice Al2 (n + 1) cl2)) (by rw [HNB.out]; exact hset.below (by omega) (by simp))
              have hcs7 : codesD (dis (ys ++ [(.slice Ax dr.2.l.length cx, diOf dr)])) = codesD (dis ys) ++ [(dr.1 : Int)] := by rw [dis_snoc, codesD_snoc]; rfl
              have hln : (codesD (dis ys)).length = n := by rw [codesD_len, dis_len, HYL.out]
              have hco7 : ∀ y ∈ ys ++ [((.slice Ax dr.2.l.length cx : Value), diOf dr)], y.2.code ≤ 200000 ∧ y.2.l.length ≤ 100 := by
                intro y hy
                rcases List.mem_append.1 hy with hy | hy
                · exact hyc.out y hy
                · simp at hy; subst hy; exact ⟨kd3, kd4⟩
              have hil := hide (hir7.il (by rw [List.length_append, HYL.out]; rfl) (fun y hy => (hco7 y hy).1))
              rw [hcs7] at hil
              have hinv : Hid (NInv (codesD (dis ys) ++ [(dr.1 : Int)]) n s) := by have := hcame.out.inv.ext (ds := [(dr.1 : Int)]) (Nat.le_refl _); rw [hln] at this; exact this
              have hgc : Hid ((codesD (dis ys) ++ [(dr.1 : Int)])[n]? = some (dr.1 : Int)) := by show _ = _; rw [List.getElem?_append_right (by omega), hln]; simp
              generalize hW6 : w6.setCell ⟨nb, 0, none⟩ (.slice Al2 (n + 1) cl2) = W6 at *
              have HW6 := hide hW6; have HNE7 := hide hne7; have HIR7 := hide hir7; have HCR7 := hide hcr7; have HO7 := hide ho7; have HCS7 := hide hcs7; have HLN := hide hln; have HCO7 := hide hco7
              have HSZ7 := hide hset.size
              clear hW6 hne7 hir7 hcr7 ho7 hcs7 hln hco7 hset hpush d0 zd0 t0 t1 t2 t3 t4 v0 hlt4 hlt5 hlt6
              have HSA := hide (step_any nb Al2 (n + 1) cl2 vs vo s n (dr.1 : Int) W6 _ _ HNE7 hil hinv hnsz (by omega) (by omega) hgc)
              rw [HST.out] at HSA
              try rw [HW6.out]
              go_wp2_with fail
              refine HSA.out.mono ?_; rintro ee w7 ⟨vs2, vo2, rfl, p1, p2⟩
              have hbp := p2.out.below HNE7.out
              have hrb7 := blk_lt HCR7.out.blk
              have hcr8 := hide (HCR7.out.below hbp hrbn)
              have hir8 := hide (HIR7.out.stepped p2.out)
              have ho8 : Hid (Only [f, g, rb] w w7) := HO7.out.then_below (by rw [HNB.out]; exact hbp)
              have HFZ := hide (rfail_any rb g f c A bs r4 (at' + dr.2.k) lv (.slice none 0 0) bad' 0 (at' : Int) (st.1 : Int) w7 hcr8)
              clear hbp HSA HF
              go_wp2_with fail
              refine HFZ.out.mono ?_; rintro ee w8 ⟨rfl, s1, s2⟩
              have hne9 := hide (p1.out.keep s2.out (by simp; omega))
              have hir9 := hide (hir8.out.keep s2.out (by simp; omega))
              have ho9 : Hid (Only [f, g, rb] w w8) := ho8.out.trans (s2.out.more (by simp))
              rw [errR_zero] at s1
              clear HFZ
              go_wp2_with fail
              go_roundw
              case rel =>
                refine ⟨n + 1, Al2, n + 1, cl2, vs2, vo2, st.2, r4, at' + dr.2.k, badR bad' 0 (at' : Int) (st.1 : Int), (st.1 : Int), by go_num, by omega, s1, hne9, ho9, by omega, ⟨?_⟩⟩
                by_cases hz : st.1 = 0
                · have hst := HSTEP.out
                  rw [if_neg (fun x => x hz)] at hst
                  refine .inl ⟨by omega, by omega, by omega, by omega, rfl, fu, ys ++ [((.slice Ax dr.2.l.length cx : Value), diOf dr)], hir9, by rw [List.length_append, HYL.out]; rfl, HCO7, ?_, ?_, by omega, ?_⟩
                  · have hcm := hcame.out.step (c := (dr.1 : Int)) (by rw [HLN.out, HST.out]; exact hz)
                    rw [HLN.out, HST.out] at hcm
                    show Came _ _
                    rw [HCS7.out]
                    exact hcm
                  · have := hnsz.out.step (cs := codesD (dis ys) ++ [(dr.1 : Int)]) (c := (dr.1 : Int))
                    rw [HST.out] at this
                    exact this
                  · show _ = _
                    rw [dis_snoc]
                    exact hst.symm
                · have hst := HSTEP.out
                  rw [if_pos hz] at hst
                  refine .inr ⟨by omega, by rw [hst], by rw [hst]; exact badR_zero (by omega)⟩
              case measure => simp [intOf] <;> omega
          · have hd4 : (decodeR (bs.drop at')).2.e ≠ 0 ∧ e4 = ((decodeR (bs.drop at')).2.e : Int) := by
              rcases k11.out with ⟨x, _⟩ | ⟨_, _, _, _, _, _, _, x | ⟨_, x, y⟩⟩
              · exact absurd x he4
              · exact x
              · omega
            have hre := insL_dec (f := fu) (xs := dis ys) hlt HCL.out hd4.1
            rw [hins'] at hre
            subst hre
            have fe4 : (e4 != 0) = true := by simpa using he4
            rw [errR_zero, badR_zero he4] at HF
            have HD4 := hide hd4
            clear hins' hins he4 hd4
            go_upto_region 6 with fail
            rw [HW4.out]
            go_wp2_with fail
            refine HF.out.mono ?_; rintro ee w6 ⟨rfl, m1, m2⟩
            go_wp2_with fail
            go_end0
            exact ⟨r4, at5, _, _, rfl, by rw [HD4.out.2] at m1; exact m1, ho5.out.trans (m2.out.more (by simp)), (fun _ => rfl), (fun x => absurd x HD4.out.1)⟩
      · have fl : decide ((0 : Int) < (bs.length : Int) - (at' : Int)) = false := by simp; omega
        have fl2 : decide (at' < bs.length) = false := by simp; omega
        have fl3 : decide ((at' : Int) < (bs.length : Int)) = false := by simp; omega
        have hre := insL_end (f := fu) (s := s) (xs := dis ys) (show bs.length ≤ at' by omega)
        rw [hins.out] at hre
        have HRE := hide hre
        clear hlt hre
        by_cases hcl : s.closed = true
        · have hre := HRE.out
          rw [if_pos hcl] at hre
          subst hre
          have HCL := hide hcl
          go_wp2_with fail
          refine HLF.out.mono ?_; rintro ee wX ⟨rfl, hoX⟩
          have hcrX := hide (hcr.out.keep hoX.out (by simp) (by simp) (by simp) (by simp))
          have hneX := hide (hne.out.quiet hoX.out)
          have n0 := cell_blk hneX.out.blk 0
          have n3 := cell_blk hneX.out.blk 3
          have x0 := cell_blk hcrX.out.blk 0
          have x4 := cell_blk hcrX.out.blk 4
          have xx2 := cell_blk hcrX.out.blk 2
          have zx2 := frozen_blk hcrX.out.blk 2
          simp at n0 n3 x0 x4 xx2
          rw [hcl] at n3
          clear y0 y4 hcl
          go_wp2_with fail
          go_end0
          have hfin := hcrX.out.set.2.1 (.slice Al n cl)
          have hset : Only [rb] wX (wX.setCell ⟨rb, 2, none⟩ (.slice Al n cl)) := Only.setCell wX (p := ⟨rb, 2, none⟩) (by simp) _
          refine ⟨r', at', _, bad', rfl, hfin, (honly.out.trans (hoX.out.more (by simp))).trans (hset.more (by simp)), (fun x => absurd rfl x), (fun _ => ⟨ys, vs, vo, ?_, rfl, by have := HYL.out; omega, fun y hy => (hyc.out y hy).2⟩)⟩
          rw [HNB.out]
          exact ((hir.out.keep hoX.out (by simp)).keep hset (by simp; omega)).base (by omega)
        · have hre := HRE.out
          rw [if_neg hcl] at hre
          subst hre
          have hcl' : s.closed = false := by simpa using hcl
          go_wp2_with fail
          refine HLF.out.mono ?_; rintro ee wX ⟨rfl, hoX⟩
          have hcrX := hide (hcr.out.keep hoX.out (by simp) (by simp) (by simp) (by simp))
          have hneX := hide (hne.out.quiet hoX.out)
          have HPX := hide (place_at g f 0 (bs.length : Int) (at' : Int) wX (hide hcrX.out.cu))
          have n0 := cell_blk hneX.out.blk 0
          have n3 := cell_blk hneX.out.blk 3
          have x0 := cell_blk hcrX.out.blk 0
          have x4 := cell_blk hcrX.out.blk 4
          have xx2 := cell_blk hcrX.out.blk 2
          have zx2 := frozen_blk hcrX.out.blk 2
          simp at n0 n3 x0 x4 xx2
          rw [hcl'] at n3
          clear y0 y4 hcl hcl'
          go_wp2_with fail
          refine HPX.out.mono ?_; rintro ee w9 ⟨rfl, hb9⟩
          have hcr9 := hide (hcrX.out.below hb9.out (blk_lt hcrX.out.blk))
          have hne9 := hide (hneX.out.keep (S := []) (Only.of_below hb9.out) (by simp))
          have HFX := hide (rfail_any rb g f c A bs _ at' lv (.slice none 0 0) bad' 0 (at' : Int) 4 w9 hcr9)
          go_wp2_with fail
          refine HFX.out.mono ?_; rintro ee w10 ⟨rfl, hcr10, ho10⟩
          have hne10 := hide (hne9.out.keep ho10.out (by simp; omega))
          have d0 := cell_blk hne10.out.blk 0
          simp at d0
          have z2 := frozen_blk hcr10.out.blk 2
          have x2 := cell_blk hcr10.out.blk 2
          simp at x2
          clear n0 n3 x0 x4 zx2 xx2
          go_wp2_with fail
          go_end0
          have hfin := hcr10.out.set.2.1 (.slice Al n cl)
          have hset : Only [rb] w10 (w10.setCell ⟨rb, 2, none⟩ (.slice Al n cl)) := Only.setCell w10 (p := ⟨rb, 2, none⟩) (by simp) _
          rw [errR_zero, badR_zero (by omega)] at hfin
          exact ⟨r', at', _, _, rfl, hfin, ((((honly.out.trans (hoX.out.more (by simp))).trans (Only.of_below hb9.out)).trans (ho10.out.more (by simp))).trans (hset.more (by simp))), (fun _ => rfl), (fun x => absurd x (by simp))⟩
    · obtain ⟨hr1, hr2⟩ : (res.1 : Int) = e' ∧ bad' = (res.2.1 : Int) := by
        rcases hix.out.out with ⟨a, _⟩ | ⟨_, a⟩
        · exact absurd a he
        · exact a
      have fe : (e' == 0) = false := by simpa using he
      have HR1 := hide hr1; have HR2 := hide hr2; have HE := hide he
      clear hr1 hr2 he hix
      have hcrX := hcr
      have hneX := hne
      have HPX := hide (place_at g f 0 (bs.length : Int) (at' : Int) wr (hide hcrX.out.cu))
      clear y0 y4

      have n0 := cell_blk hneX.out.blk 0
      have n3 := cell_blk hneX.out.blk 3
      have x0 := cell_blk hcrX.out.blk 0
      have x4 := cell_blk hcrX.out.blk 4
      have xx2 := cell_blk hcrX.out.blk 2
      have zx2 := frozen_blk hcrX.out.blk 2
      simp at n0 n3 x0 x4 xx2
      cases hcl : s.closed with
      | true =>
        rw [hcl] at n3
        have HCL := hide hcl; clear hcl
        go_wp2_with fail
        go_end0
        have hfin := hcrX.out.set.2.1 (.slice Al n cl)
        have hset : Only [rb] wr (wr.setCell ⟨rb, 2, none⟩ (.slice Al n cl)) := Only.setCell wr (p := ⟨rb, 2, none⟩) (by simp) _
        exact ⟨r', at', _, bad', rfl, by rw [HR1.out]; exact hfin, honly.out.trans (hset.more (by simp)), (fun _ => HR2.out), (fun x => absurd (by rw [← HR1.out, x]; rfl) HE.out)⟩
      | false =>
        rw [hcl] at n3
        have HCL := hide hcl; clear hcl
        go_wp2_with fail
        refine HPX.out.mono ?_; rintro ee w9 ⟨rfl, hb9⟩
        have hcr9 := hide (hcrX.out.below hb9.out (blk_lt hcrX.out.blk))
        have hne9 := hide (hneX.out.keep (S := []) (Only.of_below hb9.out) (by simp))
        have HFX := hide (rfail_any rb g f c A bs _ at' lv (.slice none 0 0) bad' e' (at' : Int) 4 w9 hcr9)
        go_wp2_with fail
        refine HFX.out.mono ?_; rintro ee w10 ⟨rfl, hcr10, ho10⟩
        have hne10 := hide (hne9.out.keep ho10.out (by simp; omega))
        have d0 := cell_blk hne10.out.blk 0
        simp at d0
        have z2 := frozen_blk hcr10.out.blk 2
        have x2 := cell_blk hcr10.out.blk 2
        simp at x2
        clear n0 n3 x0 x4 zx2 xx2
        go_wp2_with fail
        go_end0
        have hfin := hcr10.out.set.2.1 (.slice Al n cl)
        have hset : Only [rb] w10 (w10.setCell ⟨rb, 2, none⟩ (.slice Al n cl)) := Only.setCell w10 (p := ⟨rb, 2, none⟩) (by simp) _
        rw [errR_held HE.out, badR_held HE.out] at hfin
        exact ⟨r', at', _, bad', rfl, by rw [HR1.out]; exact hfin, ((honly.out.trans (Only.of_below hb9.out)).trans (ho10.out.more (by simp))).trans (hset.more (by simp)), (fun _ => HR2.out), (fun x => absurd (by rw [← HR1.out, x]; rfl) HE.out)⟩
end Go.Proofs.Ytdhmkapknaphpaa
