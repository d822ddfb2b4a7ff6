/-
  HostAnswers: the walk.
-/
import Derived.Test.YtnfaaiifbiobiaaDoorHostQ
namespace Go.Proofs.YtnfaaiifbiobiaaDoor
open Go.RowKit
set_option linter.unusedVariables false

def wantX (rs : List HR) (k : Nat) : Int := if (rs.take k).all rightH then 0 else 1
theorem wantX_step (rs : List HR) {k : Nat} {r : HR} (hr : rs[k]? = some r) : wantX rs (k + 1) = if rightH r then wantX rs k else 1 := by
  have hst : rs.take (k + 1) = rs.take k ++ [r] := by rw [List.take_add_one, hr]; rfl
  unfold wantX
  rw [hst, List.all_append, List.all_cons, List.all_nil, Bool.and_true]
  cases rightH r with
  | true => rw [Bool.and_true, if_pos rfl]
  | false => rw [Bool.and_false, if_neg (by simp), if_neg (by simp)]
theorem wantX_full (rs : List HR) {n : Nat} (h : rs.length = n) : wantX rs n = if rs.all rightH then 0 else 1 := by
  unfold wantX
  rw [List.take_of_length_le (by omega)]

/-- a variable that holds an ask -/
structure AskV (w : World) (b : Nat) (a : AK) : Prop where
  ex : w.heap[b]? = some (.cells #[.string ⟨a.m.toArray⟩, .string ⟨a.n.toArray⟩, .int .i64 a.sg, .slice a.Ar a.ts.length a.cr, .slice a.Ag a.gs.length a.cg] 39 (0, 0))
theorem AskV.lt {w : World} {b : Nat} {a : AK} (h : AskV w b a) : b < w.heap.size := blk_lt h.ex
theorem AskV.only {w w' : World} {b : Nat} {a : AK} {S : List Nat} (h : AskV w b a) (ho : Only S w w') (hS : b ∉ S) : AskV w' b a := ⟨(ho.block b h.lt hS).trans h.ex⟩
theorem AskV.below {w w' : World} {b : Nat} {a : AK} (h : AskV w b a) (hb : Below w.heap.size w w') : AskV w' b a := h.only (S := []) (Only.of_below hb) (by simp)
theorem AskV.cs {w : World} {b : Nat} {a : AK} (h : AskV w b a) : w.cell? ⟨b, 0, none⟩ = some (.string ⟨a.m.toArray⟩) ∧ w.cell? ⟨b, 1, none⟩ = some (.string ⟨a.n.toArray⟩) ∧ w.cell? ⟨b, 2, none⟩ = some (.int .i64 a.sg) ∧ w.cell? ⟨b, 3, none⟩ = some (.slice a.Ar a.ts.length a.cr) ∧ w.cell? ⟨b, 4, none⟩ = some (.slice a.Ag a.gs.length a.cg) :=
  ⟨cell_blk h.ex 0, cell_blk h.ex 1, cell_blk h.ex 2, cell_blk h.ex 3, cell_blk h.ex 4⟩

set_option maxRecDepth 100000 in
set_option maxHeartbeats 20000000 in
theorem answers_any (A0 : Option Addr) (c0 n : Nat) (rs : List HR) (A1 : Option Addr) (c1 m : Nat) (as_ : List AK) (w : World) (h0 : Hid (Reads w w.heap.size 4 A0 rs.length (rs.flatMap hrV))) (hn : Hid (rs.length = n)) (hf : Hid (Fair rs)) (h1 : Hid (AsksOk w w.heap.size A1 as_)) (hm : Hid (as_.length = m)) (ht : Hid (LaidH w)) (hn40 : n ≤ 40) (hm40 : m ≤ 40) :
    Calls Tryd.prog 3 #[.slice A0 n c0, .slice A1 m c1] w fun e w' => e = .returned (.bool true) ∧ Hid (Below w.heap.size w w') := by
  have HA := hide (awakeH w ht)
  obtain ⟨B0, hB0⟩ : ∃ b, w.heap.size = b := ⟨_, rfl⟩
  have HB0 := hide hB0
  rw [hB0] at h0 h1
  clear hB0 ht
  go_enter Tryd.func3, Tryd.ntmps3
  go_wp2_with fail
  refine HA.out.mono ?_; rintro e wa ⟨rfl, ha⟩
  have hBa : Below B0 w wa := by have := ha.out; rw [HB0.out] at this; exact this
  have hB0a : B0 ≤ wa.heap.size := by have := hBa.size; have := ha.out.size; have := HB0.out; omega
  have HBA := hide hBa
  have hx0 : Hid ((0 : Int) = wantX rs 0) := rfl
  clear hBa ha HA
  go_wp2_with fail
  go_loopw [5, 6] (fun x i w1 => ∃ (j : Nat) (y : Int), x = .int .i64 y ∧ i = .int .i64 j ∧ j ≤ n ∧ Hid (y = wantX rs j) ∧ Hid (Below B0 w w1) ∧ B0 ≤ w1.heap.size) (fun _ i _ => n - (intOf i).toNat)
  case atStart => exact ⟨0, 0, rfl, rfl, by omega, hx0, HBA, hB0a⟩
  case round =>
    clear HBA hx0
    obtain ⟨j, y, rfl, rfl, hj, hy, hBw, hBs⟩ := hrel
    by_cases hlt : j < n
    · as_aux_lemma =>
        obtain ⟨ad, r, rfl, hr, u0, u1, u2, u3, hab⟩ := rule_at (h0.out.below hBw.out) (i := j) (by rw [hn.out]; exact hlt)
        obtain ⟨f1, f2, f3⟩ := hf.out r (List.mem_of_getElem? hr.out)
        by_cases hm60 : 60 < r.m.length
        · go_wp2_with fail
          go_ret
          exact ⟨rfl, by rw [HB0.out]; exact hBw.out⟩
        · by_cases hn60 : 60 < r.n.length
          · go_wp2_with fail
            go_ret
            exact ⟨rfl, by rw [HB0.out]; exact hBw.out⟩
          · have HLR := hide (lright_any r wr f1 f2 (by omega))
            have hst := wantX_step rs hr.out
            cases hq : rightH r with
            | true =>
              rw [hq] at HLR
              rw [hq, if_pos rfl, ← hy.out] at hst
              have HST : Hid (y = wantX rs (j + 1)) := hst.symm
              clear hq hst hr hy
              go_wp2_with fail
              refine HLR.out.mono ?_; rintro e w2 ⟨rfl, h2⟩
              clear u0 u1 u2 u3
              go_wp2_with fail
              go_roundw
              case rel => exact ⟨j + 1, y, rfl, by go_num, by omega, HST, hBw.out.trans (h2.out.mono hBs), by have := h2.out.size; omega⟩
              case measure => simp [intOf] <;> omega
            | false =>
              rw [hq] at HLR
              rw [hq, if_neg (by simp)] at hst
              have HST : Hid ((1 : Int) = wantX rs (j + 1)) := hst.symm
              clear hq hst hr hy
              go_wp2_with fail
              refine HLR.out.mono ?_; rintro e w2 ⟨rfl, h2⟩
              clear u0 u1 u2 u3
              go_wp2_with fail
              go_roundw
              case rel => exact ⟨j + 1, 1, rfl, by go_num, by omega, HST, hBw.out.trans (h2.out.mono hBs), by have := h2.out.size; omega⟩
              case measure => simp [intOf] <;> omega
    · have hjn : n = j := by omega
      subst hjn
      have hyf : y = if rs.all rightH then 0 else 1 := by rw [hy.out]; exact wantX_full rs hn.out
      have HNA := hide (new_all A0 c0 n rs wr ((h0.out.below hBw.out).more hBs) hn.out (by omega) hf)
      obtain ⟨B1, hB1⟩ : ∃ b, wr.heap.size = b := ⟨_, rfl⟩
      have HB1 := hide hB1
      have HYF := hide hyf
      clear hlt hy hyf hB1
      by_cases h30 : 30 < n
      · go_wp2_with fail
        refine HNA.out.mono ?_; rintro e wb ⟨v1, rfl, hs1, hb1, hp1⟩
        have e1 : newE rs = 15 := by unfold newE; rw [if_pos (by have := hn.out; omega)]
        have s1 : newS rs = none := by unfold newS; rw [if_pos (by have := hn.out; omega)]
        have hv1 : v1 = .pointer none := by have := hs1.out; rw [s1] at this; exact this
        subst hv1
        have HBF : Hid (Below w.heap.size w wb) := by show Below _ _ _; rw [HB0.out]; exact hBw.out.trans (hb1.out.mono hBs)
        rw [e1]
        clear hs1 hb1 hp1 e1 s1 HNA
        go_wp2_with fail
        go_ret
        exact ⟨rfl, HBF⟩
      · rcases new_cases rs (by have := hn.out; omega) with ⟨e1, s1, q1⟩ | ⟨e1, s1, q1⟩
        case inr =>
          have hy1 : y = 1 := by rw [HYF.out, q1]; rfl
          subst hy1
          go_wp2_with fail
          refine HNA.out.mono ?_; rintro e wb ⟨v1, rfl, hs1, hb1, hp1⟩
          have hv1 : v1 = .pointer none := by have := hs1.out; rw [s1] at this; exact this
          subst hv1
          have HBF : Hid (Below w.heap.size w wb) := by show Below _ _ _; rw [HB0.out]; exact hBw.out.trans (hb1.out.mono hBs)
          rw [e1]
          clear hs1 hb1 hp1 e1 s1 q1 HNA
          go_wp2_with fail
          go_ret
          exact ⟨rfl, HBF⟩
        have hy0 : y = 0 := by rw [HYF.out, q1]; rfl
        subst hy0
        go_wp2_with fail
        refine HNA.out.mono ?_; rintro e wb ⟨v1, rfl, hs1, hb1, hp1⟩
        rw [s1, HB1.out] at hs1
        rw [HB1.out] at hb1
        have hv1 : ∃ g, v1 = .pointer (some ⟨g, 0, none⟩) := by
          obtain ⟨hb', _, _, _, h, _⟩ := hs1.out
          exact ⟨hb', h⟩
        obtain ⟨gv, hgv⟩ := hv1
        subst hgv
        rw [e1]
        obtain ⟨E1, hE1⟩ : ∃ b, wb.heap.size = b := ⟨_, rfl⟩
        rw [hE1] at hs1
        have hBE1 : B1 ≤ E1 := by have := hb1.out.size; have := HB1.out; omega
        have hB01 : B0 ≤ B1 := by have := HB1.out; omega
        have hBb : Below B0 w wb := hBw.out.trans (hb1.out.mono hB01)
        have hmk : (Instr.makeSlice 33 (.int .i64 (n : Int)) (.int .i64 (n : Int))).run Tryd.prog wb = .ok (.slice (some ⟨wb.heap.size, 0, none⟩) n n) (wb.alloc (.cells (List.replicate n (.int .i64 0)).toArray 3)) := run_make_zz (bytes := 8) (z := .int .i64 0) Tryd.underlying33 (by kernel_rfl) rfl wb n (by omega) (by omega)
        obtain ⟨wc, hwc⟩ : ∃ x, wb.alloc (.cells (List.replicate n (.int .i64 0)).toArray 3) = x := ⟨_, rfl⟩
        rw [hwc, hE1] at hmk
        have hbc : Below wb.heap.size wb wc := by rw [← hwc]; exact (Below.refl _ _).alloc (Nat.le_refl _) _
        have hask : wc.heap[E1]? = some (.cells (List.replicate n (.int .i64 0)).toArray 3 (0, 0)) := by rw [← hwc, ← hE1]; exact heap_alloc_new wb _
        have HASK : Hid (wc.heap[E1]? = some (.cells ((List.replicate n 0 : List Nat).map I).toArray 3 (0, 0))) := by
          show _ = _
          rw [List.map_replicate]
          exact hask
        have HS1 : Hid (Hst wc B1 E1 (.pointer (some ⟨gv, 0, none⟩)) (some (rs, List.replicate n 0))) := by
          have := hs1.out.below hbc
          rw [hn.out] at this
          exact this
        have HBC : Hid (Below B0 w wc) := hBb.trans (hbc.mono (by omega))
        have hEs : E1 + 1 ≤ wc.heap.size := by have := blk_lt hask; omega
        clear hs1 hb1 hp1 e1 s1 hBb hwc hE1 hbc hask HNA HYF hBw hBs
        have hsum0 : Hid ((0 : Nat) = sumL (List.replicate n 0)) := by
          show 0 = _
          have : ∀ k, sumL (List.replicate k 0) = 0 := by
            intro k
            induction k with
            | zero => rfl
            | succ k ih => rw [List.replicate_succ]; unfold sumL; rw [List.foldl_cons, sumL_add]; omega
          exact (this n).symm
        have hfew0 : Hid (Few (some (rs, List.replicate n 0)) 0) := by
          intro rs' qs' e q hq
          injection e with e
          injection e with _ e
          subst e
          have := (List.mem_replicate.1 hq).2
          omega
        go_wp2_with fail
        go_loopw [10, 11, 12, 13, 14, 15, 16, 17, 18, 19, 20, 21, 22] (fun t i _ _ _ _ _ _ _ _ _ _ _ w1 => ∃ (i' tt : Nat) (qs : List Nat), t = .int .i64 (tt : Int) ∧ i = .int .i64 (i' : Int) ∧ i' ≤ m ∧ Hid (tt = sumL qs) ∧ tt ≤ i' ∧ Hid (Hst w1 B1 E1 (.pointer (some ⟨gv, 0, none⟩)) (some (rs, qs))) ∧ Hid (w1.heap[E1]? = some (.cells (qs.map I).toArray 3 (0, 0))) ∧ Hid (Few (some (rs, qs)) i') ∧ Hid (Below B0 w w1) ∧ E1 + 1 ≤ w1.heap.size) (fun _ i _ _ _ _ _ _ _ _ _ _ _ _ => m - (intOf i).toNat)
        case atStart => exact ⟨0, 0, _, rfl, rfl, by omega, hsum0, by omega, HS1, HASK, hfew0, HBC, hEs⟩
        case round =>
          clear hsum0 HS1 HASK hfew0 HBC hEs hmk
          obtain ⟨i, tt, qs, rfl, rfl, hi, hsum, htt, HS1, HAK, HFW, HBR, hEs⟩ := hrel
          by_cases hlt : i < m
          · obtain ⟨ad, a, rfl, ha, e0, e1, e2, e3, e4, hab, hr1, hr2, hgu⟩ := ask_at (h1.out.below HBR.out) (i := i) (by rw [hm.out]; exact hlt)
            go_upto_region 24 with fail
            obtain ⟨w2, hw2⟩ : ∃ x, wr.alloc (.cells #[.string ⟨a.m.toArray⟩, .string ⟨a.n.toArray⟩, .int .i64 a.sg, .slice a.Ar a.ts.length a.cr, .slice a.Ag a.gs.length a.cg] 39) = x := ⟨_, rfl⟩
            obtain ⟨b12, hb12⟩ : ∃ b, wr.heap.size = b := ⟨_, rfl⟩
            rw [hw2, hb12]
            have hav : AskV w2 b12 a := by rw [← hw2, ← hb12]; exact ⟨heap_alloc_new wr _⟩
            have hbw2 : Below wr.heap.size wr w2 := by rw [← hw2]; exact (Below.refl _ _).alloc (Nat.le_refl _) _
            have HAV := hide hav
            have HS2 := hide (HS1.out.below hbw2)
            have HAK2 := hide ((hbw2.block E1 (by omega)).trans HAK.out)
            have HB2 := hide (HBR.out.trans (hbw2.mono (by omega)))
            have hE2 : E1 + 1 ≤ w2.heap.size := by have := hbw2.size; omega
            have hbE : E1 + 1 ≤ b12 := by omega
            have hrt2 := hide (hr1.out.below (hbw2.mono (by omega)))
            have hrg2 := hide (hr2.out.below (hbw2.mono (by omega)))
            obtain ⟨l0, l1, l2, l3, l4⟩ := hav.cs
            clear e0 e1 e2 e3 e4 hr1 hr2 HS1 HAK HBR hEs hav hbw2 hw2 hb12 hab
            by_cases ht20 : 20 < a.ts.length
            · go_wp2_with fail
              go_ret
              exact ⟨rfl, by rw [HB0.out]; exact HB2.out⟩
            · by_cases hg20 : 20 < a.gs.length
              · go_wp2_with fail
                go_ret
                exact ⟨rfl, by rw [HB0.out]; exact HB2.out⟩
              · have hidx : Hid ((-1 : Int) = idxI (findH (rs.drop n) a.m a.n n)) := by
                  show _ = _
                  rw [List.drop_of_length_le (by have := hn.out; omega)]
                  rfl
                have hn1 : -1 ≤ (n : Int) - 1 := by omega
                go_upto_region 26 with fail
                go_wp2_with fail
                clear l0 l1 l2 l3 l4
                go_loopw [13, 14] (fun k j w3 => ∃ (jj : Nat) (kk z : Int), k = .int .i64 kk ∧ j = .int .i64 z ∧ z = (jj : Int) - 1 ∧ jj ≤ n ∧ Hid (kk = idxI (findH (rs.drop jj) a.m a.n jj)) ∧ Hid (Below w2.heap.size w2 w3)) (fun _ j _ => (intOf j + 1).toNat)
                case atStart => exact ⟨n, -1, _, rfl, rfl, rfl, by omega, hidx, Below.refl _ _⟩
                case round =>
                  clear hidx
                  obtain ⟨jj, kk, z, rfl, rfl, hz, hjj, hkk, hb3⟩ := hrel
                  by_cases hj0 : jj = 0
                  · subst hj0
                    obtain rfl : z = -1 := by omega
                    have hkf : Hid (kk = idxI (findH rs a.m a.n 0)) := hkk.out
                    have HAV3 := hide (HAV.out.below hb3.out)
                    have HS3 := hide (HS2.out.below hb3.out)
                    have HAK3 := hide ((hb3.out.block E1 (by omega)).trans HAK2.out)
                    have HB3 := hide (HB2.out.trans (hb3.out.mono (by omega)))
                    have hE3 : E1 + 1 ≤ wr.heap.size := by have := hb3.out.size; omega
                    have hrt3 := hide ((hrt2.out.below (hb3.out.mono (by omega))).more (Bk' := wr.heap.size) (by omega))
                    have hrg3 := hide (hrg2.out.below (hb3.out.mono (by omega)))
                    have hrt0 := hide (hrt2.out.below (hb3.out.mono (by omega)))
                    obtain ⟨l0, l1, l2, l3, l4⟩ := HAV3.out.cs
                    have HRU := hide (rule_all B1 E1 (.pointer (some ⟨gv, 0, none⟩)) (some (rs, qs)) a.m a.n a.sg wr HS3)
                    have hru : ruleS (some (rs, qs)) a.m a.n = findH rs a.m a.n 0 := rfl
                    rw [hru] at HRU
                    obtain ⟨at1, hat1⟩ : ∃ x, (findH rs a.m a.n 0).getD 0 = x := ⟨_, rfl⟩
                    obtain ⟨is1, his1⟩ : ∃ x, (findH rs a.m a.n 0).isSome = x := ⟨_, rfl⟩
                    rw [hat1, his1] at HRU
                    have HAT1 := hide hat1; have HIS1 := hide his1
                    clear hru hat1 his1 HAV HS2 HAK2 HB2 hrt2 hrg2 hkk hz
                    go_wp2_with fail
                    refine HRU.out.mono ?_; rintro e w4 ⟨rfl, h4⟩
                    clear l0 l1 l2 l3 l4 HRU
                    have HAV4 := hide (HAV3.out.below h4.out)
                    have HS4 := hide (HS3.out.below h4.out)
                    have HAK4 := hide ((h4.out.block E1 (by omega)).trans HAK3.out)
                    have HB4 := hide (HB3.out.trans (h4.out.mono (by omega)))
                    have hE4 : E1 + 1 ≤ w4.heap.size := by have := h4.out.size; omega
                    have hrt4 := hide (hrt0.out.below (h4.out.mono (by omega)))
                    have hrg4 := hide (hrg3.out.below (h4.out.mono (by omega)))
                    clear HAV3 HS3 HAK3 HB3 hE3 hrt3 hrg3 hrt0 h4 hb3
                    go_upto_region 33 with fail
                    obtain ⟨q, hq⟩ : ∃ q, (outS (some (rs, qs)) a.m a.n a.ts a.gs).isSome = q := ⟨_, rfl⟩
                    obtain ⟨ol, hol⟩ : ∃ ol, outL (outS (some (rs, qs)) a.m a.n a.ts a.gs) = ol := ⟨_, rfl⟩
                    obtain ⟨st', hst'⟩ : ∃ s, stepS (some (rs, qs)) a.m a.n = s := ⟨_, rfl⟩
                    have HFW' : Hid (Few st' (i + 1)) := by show Few _ _; rw [← hst']; exact stepS_few HFW.out _ _
                    have HFW9 : Hid (Few (some (rs, qs)) 999) := by intro rs' qs' e q' hq'; have := HFW.out rs' qs' e q' hq'; omega
                    have HAT : Hid (∀ W, AOnly B1 E1 w4 W → AskV W b12 a) := fun W h => HAV4.out.only h (fun hm => by have := mem_BE.1 hm; omega)
                    have HTO : Hid (∀ W, AOnly B1 E1 w4 W → Calls Tryd.prog 11 #[.slice a.Ar a.ts.length a.cr] W fun e w' => ∃ A2 c2, e = .returned (.slice A2 a.ts.length c2) ∧ Hid (Reads w' w'.heap.size 1 A2 a.ts.length (a.ts.map B)) ∧ Hid (∀ ad, A2 = some ad → W.heap.size ≤ ad.block) ∧ Hid (Below W.heap.size W w')) :=
                      fun W h => to_any a.Ar a.cr a.ts W (hrt4.out.aonly h hB01 (by omega)) (by omega)
                    have HANS : Hid (∀ W A2 c2, grew w4 W → Reads W W.heap.size 1 A2 a.ts.length (a.ts.map B) → (∀ ad, A2 = some ad → E1 + 1 ≤ ad.block) → Calls Tryd.prog 10 #[.pointer (some ⟨gv, 0, none⟩), .agg #[.string ⟨a.m.toArray⟩, .string ⟨a.n.toArray⟩, .int .i64 a.sg], .agg #[.slice none 0 0, .slice A2 a.ts.length c2], .slice a.Ag a.gs.length a.cg] W
                        fun e w' => ∃ A c, e = .returned (.tuple #[.slice A ol.length c, .bool q]) ∧ Hid (Reads w' w'.heap.size 1 A ol.length (ol.map U)) ∧ Hid (∀ ad, 0 < ol.length → A = some ad → W.heap.size ≤ ad.block) ∧ Hid (AOnly B1 E1 W w') ∧ Hid (Hst w' B1 E1 (.pointer (some ⟨gv, 0, none⟩)) st')) := by
                      intro W A2 c2 hW hR hE
                      have h := answer_all B1 E1 (.pointer (some ⟨gv, 0, none⟩)) (some (rs, qs)) a.m a.n a.sg (.slice none 0 0) A2 c2 a.ts a.Ag a.cg a.gs W (HS4.out.below hW) (fun W' h' => hR.aonly2 h' (fun ad e => by have := hE ad e; omega)) (fun W' h' => (hrg4.out.below (hW.mono (by omega))).aonly h' hB01 (by have := hW.size; omega)) (by omega) (by omega) hgu HFW9
                      unfold AnsP at h
                      rw [hq, hol, hst'] at h
                      exact h
                    have HQ := hide hq; have HOL := hide hol; have HST := hide hst'
                    clear hq hol hst'

                    refine wp_region_factsC grew_ext (AOnly.ext B1 E1) (fun _ _ h => AOnly.of_below h) 9 (factsOf [fun yy _ => yy = .pointer (some ⟨gv, 0, none⟩),
                      fun yy _ => yy = .pointer (some ⟨b12, 0, none⟩),
                      fun yy _ => yy = .agg #[.string ⟨a.m.toArray⟩, .string ⟨a.n.toArray⟩, .int .i64 a.sg],
                      fun yy _ => yy = .pointer (some ⟨b12, 3, none⟩),
                      fun yy _ => yy = .slice a.Ar a.ts.length a.cr,
                      fun yy W => ∃ A2 c2, yy = .slice A2 a.ts.length c2 ∧ Reads W W.heap.size 1 A2 a.ts.length (a.ts.map B) ∧ ∀ ad, A2 = some ad → E1 + 1 ≤ ad.block,
                      fun yy W => ∃ A2 c2, yy = .agg #[.slice none 0 0, .slice A2 a.ts.length c2] ∧ Reads W W.heap.size 1 A2 a.ts.length (a.ts.map B) ∧ ∀ ad, A2 = some ad → E1 + 1 ≤ ad.block,
                      fun yy _ => yy = .pointer (some ⟨b12, 4, none⟩),
                      fun yy _ => yy = .slice a.Ag a.gs.length a.cg,
                      fun yy W => (∃ u, yy = .tuple #[u, .bool q] ∧ OutF (E1 + 1) ol u W) ∧ Hst W B1 E1 (.pointer (some ⟨gv, 0, none⟩)) st',
                      fun yy W => ∃ u, yy = .tuple #[u, .bool q] ∧ OutF (E1 + 1) ol u W,
                      fun yy W => OutF (E1 + 1) ol yy W,
                      fun yy _ => yy = .bool q,
                      fun yy W => OutF (E1 + 1) ol yy W,
                      fun yy _ => yy = .bool q]) (by kernel_rfl) (by kernel_rfl) (by decide) ?_ ?_
                    · refine ⟨?_, ?_, ?_, ?_, ?_, ?_, ?_, ?_, ?_, ?_, ?_, ?_, ?_, ?_, ?_, trivial⟩
                      · refine ObC.plain (by decide) rfl fun ρ W hk => ?_
                        exact OpOut.move (.tmp 7) rfl ⟨Below.refl _ _, hk.old 7 (by decide)⟩
                      · refine ObC.plain (by decide) rfl fun ρ W hk => ?_
                        have o12 : ρ (.tmp 12) = .pointer (some ⟨b12, 0, none⟩) := hk.old 12 (by decide)
                        exact OpOut.fieldAddr (x := .tmp 12) rfl o12 (by go_simp) ⟨Below.refl _ _, rfl⟩
                      · refine ObC.plain (by decide) rfl fun ρ W hk => ?_
                        have h1 := (hk.fact 1 160 (by decide) rfl).pure
                        obtain ⟨k0, k1, k2, k3, k4⟩ := (HAT.out W hk.below).cs
                        exact OpOut.load (x := .tmp 160) rfl h1 (by go_simp) ⟨Below.refl _ _, rfl⟩
                      · refine ObC.plain (by decide) rfl fun ρ W hk => ?_
                        have o12 : ρ (.tmp 12) = .pointer (some ⟨b12, 0, none⟩) := hk.old 12 (by decide)
                        exact OpOut.fieldAddr (x := .tmp 12) rfl o12 (by go_simp) ⟨Below.refl _ _, rfl⟩
                      · refine ObC.plain (by decide) rfl fun ρ W hk => ?_
                        have h3 := (hk.fact 3 162 (by decide) rfl).pure
                        obtain ⟨k0, k1, k2, k3, k4⟩ := (HAT.out W hk.below).cs
                        exact OpOut.load (x := .tmp 162) rfl h3 (by go_simp) ⟨Below.refl _ _, rfl⟩
                      · refine ObC.plain (by decide) rfl fun ρ W hk => ?_
                        have h4 := (hk.fact 4 163 (by decide) rfl).pure
                        refine OpOut.fn (args := #[.slice a.Ar a.ts.length a.cr]) rfl (hk.func _) (by simp [h4]) Tryd.func11 (by kernel_rfl) rfl ?_
                        refine (HTO.out W hk.below).mono ?_; rintro e w7 ⟨A2, c2, rfl, g1, g2, g3⟩
                        exact ⟨_, rfl, g3.out, A2, c2, rfl, g1.out, fun ad' e' => by have := g2.out ad' e'; have := hk.below.size; omega⟩
                      · refine ObC.plain (by decide) rfl fun ρ W hk => ?_
                        obtain ⟨wq, hq, A2, c2, e5, hR, hE⟩ := hk.fact 5 164 (by decide) rfl
                        exact OpOut.build (us := #[(1, .slice A2 a.ts.length c2)]) rfl (by simp [e5]) (by go_simp) ⟨Below.refl _ _, A2, c2, rfl, hR.aonly2 hq (fun ad' e' => by have := hE ad' e'; omega), hE⟩
                      · refine ObC.plain (by decide) rfl fun ρ W hk => ?_
                        have o12 : ρ (.tmp 12) = .pointer (some ⟨b12, 0, none⟩) := hk.old 12 (by decide)
                        exact OpOut.fieldAddr (x := .tmp 12) rfl o12 (by go_simp) ⟨Below.refl _ _, rfl⟩
                      · refine ObC.plain (by decide) rfl fun ρ W hk => ?_
                        have h7 := (hk.fact 7 166 (by decide) rfl).pure
                        obtain ⟨k0, k1, k2, k3, k4⟩ := (HAT.out W hk.below).cs
                        exact OpOut.load (x := .tmp 166) rfl h7 (by go_simp) ⟨Below.refl _ _, rfl⟩
                      · refine ObC.writes rfl fun ρ W hk hw => ?_
                        have h0 := (hk.fact 0 159 (by decide) rfl).pure
                        have h2 := (hk.fact 2 161 (by decide) rfl).pure
                        obtain ⟨wq, hq, A2, c2, h6, hR, hE⟩ := hk.fact 6 165 (by decide) rfl
                        have h8 := (hk.fact 8 167 (by decide) rfl).pure
                        refine OpOut.fn (args := #[.pointer (some ⟨gv, 0, none⟩), .agg #[.string ⟨a.m.toArray⟩, .string ⟨a.n.toArray⟩, .int .i64 a.sg], .agg #[.slice none 0 0, .slice A2 a.ts.length c2], .slice a.Ag a.gs.length a.cg]) rfl (hk.func _) (by simp [h0, h2, h6, h8]) Tryd.func10 (by kernel_rfl) rfl ?_
                        refine (HANS.out W A2 c2 hw (hR.aonly2 hq (fun ad' e' => by have := hE ad' e'; omega)) hE).mono ?_; rintro ee w7 ⟨A, c, rfl, g1, g2, g3, g4⟩
                        exact ⟨_, rfl, g3.out, ⟨_, rfl, A, c, rfl, g1.out, fun ad' p1 p2 => by have := g2.out ad' p1 p2; have := hw.size; omega⟩, g4.out⟩
                      · refine ObC.plain (by decide) rfl fun ρ W hk => ?_
                        obtain ⟨wq, hq, ⟨u, e12, ho⟩, _⟩ := hk.fact 9 168 (by decide) rfl
                        exact OpOut.move (.tmp 168) rfl ⟨Below.refl _ _, u, e12, ho.aonly hq (by omega)⟩
                      · refine ObC.plain (by decide) rfl fun ρ W hk => ?_
                        obtain ⟨wq, hq, u, e13, ho⟩ := hk.fact 10 158 (by decide) rfl
                        exact OpOut.extract (x := .tmp 158) rfl e13 (by go_simp; try rfl) ⟨Below.refl _ _, ho.aonly hq (by omega)⟩
                      · refine ObC.plain (by decide) rfl fun ρ W hk => ?_
                        obtain ⟨wq, hq, u, e13, ho⟩ := hk.fact 10 158 (by decide) rfl
                        exact OpOut.extract (x := .tmp 158) rfl e13 (by go_simp; try rfl) ⟨Below.refl _ _, rfl⟩
                      · refine ObC.plain (by decide) rfl fun ρ W hk => ?_
                        obtain ⟨wq, hq, ho⟩ := hk.fact 11 169 (by decide) rfl
                        exact OpOut.assign (.tmp 169) rfl ⟨Below.refl _ _, OutF.aonly ho hq (by omega)⟩
                      · refine ObC.plain (by decide) rfl fun ρ W hk => ?_
                        have h12 := (hk.fact 12 170 (by decide) rfl).pure
                        exact OpOut.assign (.tmp 170) rfl ⟨Below.refl _ _, h12⟩
                    · intro vs w5 hb hf hcf
                      obtain ⟨wq, hq, ho⟩ := hf 13 (by decide)
                      have hout : OutF (E1 + 1) ol (vs 13) w5 := OutF.aonly ho hq (by omega)
                      have e14 := (hf 14 (by decide)).pure
                      obtain ⟨wp, hp, _, hst⟩ := hcf
                      have hst2 := hst.below hp
                      have HO1 := hide hout; have HS5 := hide hst2; have HAO := hide hb
                      clear hf ho hq hout hst hst2 hp hb
                      simp only [fillL]
                      rw [e14]
                      generalize vs 0 = vx0, vs 1 = vx1, vs 2 = vx2, vs 3 = vx3, vs 4 = vx4, vs 5 = vx5, vs 6 = vx6, vs 7 = vx7, vs 8 = vx8, vs 9 = vx9, vs 10 = vx10, vs 11 = vx11, vs 12 = vx12, vs 13 = vx13 at *
                      clear e14
                      go_frame

                      have HAV5 := hide (HAT.out w5 HAO.out)
                      have HAK5 : Hid (w5.heap[E1]? = some (.cells (qs.map I).toArray 3 (0, 0))) := (HAO.out.block E1 (by omega) (fun hm => by have := mem_BE.1 hm; omega)).trans HAK4.out
                      have HB5 := hide (HB4.out.trans (HAO.out.below hB01 (by omega)))
                      have hE5 : E1 + 1 ≤ w5.heap.size := by have := HAO.out.size; omega
                      have hrt5 := hide (hrt4.out.below (HAO.out.below hB01 (by omega)))
                      have hrg5 := hide (hrg4.out.below (HAO.out.below hB01 (by omega)))
                      have HFWL := HS4
                      have HAR : Hid (AllR rs) := by obtain ⟨_, _, _, _, _, _, h3, _⟩ := HS4.out; exact h3
                      clear HAT HTO HANS HAV4 HS4 HAK4 HB4 hE4 hrt4 hrg4 HAO HFW9
                      cases hfk : findH rs a.m a.n 0 with
                      | none =>
                        as_aux_lemma =>
                          have k1 : is1 = false := by rw [← HIS1.out, hfk]; rfl
                          have k2 : kk = -1 := by rw [hkf.out, hfk]; rfl
                          have ho : outS (some (rs, qs)) a.m a.n a.ts a.gs = none := by simp only [outS, hfk]
                          have k3 : q = false := by rw [← HQ.out, ho]; rfl
                          have k4 : st' = some (rs, qs) := by rw [← HST.out]; simp only [stepS, hfk]
                          subst k1 k2 k3 k4
                          clear hfk ho HQ HOL HST hkf HIS1 HAT1 HO1
                          go_wp2_with fail
                          go_roundw
                          case rel => exact ⟨i + 1, tt, qs, rfl, by go_num, by omega, hsum, by omega, HS5, HAK5, HFW', HB5, hE5⟩
                          case measure => simp [intOf] <;> omega
                      | some k =>
                        obtain ⟨_, hkl, r, hr, _⟩ := findH_some hfk
                        rw [Nat.sub_zero] at hr
                        have hkn : k < n := by have := hn.out; omega
                        have hal : qs.length = n := by obtain ⟨_, _, _, _, _, h2, _⟩ := HFWL.out; have := h2.al; have := hn.out; omega
                        obtain ⟨v, hv⟩ : ∃ v, qs[k]? = some v := ⟨_, List.getElem?_eq_getElem (by omega)⟩
                        have hgd : qs.getD k 0 = v := by rw [List.getD_eq_getElem?_getD, hv]; rfl
                        have hv40 : v ≤ i := HFW.out rs qs rfl v (List.mem_of_getElem? hv)
                        have k1 : is1 = true := by rw [← HIS1.out, hfk]; rfl
                        have k2 : kk = (k : Int) := by rw [hkf.out, hfk]; rfl
                        have k3 : at1 = k := by rw [← HAT1.out, hfk]; rfl
                        obtain ⟨vv, hvv⟩ : ∃ x, v + 1 = x := ⟨_, rfl⟩
                        obtain ⟨t2, ht2⟩ : ∃ x, tt + 1 = x := ⟨_, rfl⟩
                        have k4 : st' = some (rs, qs.set k vv) := by rw [← HST.out]; simp only [stepS, hfk, hgd, hvv]
                        have ho : outS (some (rs, qs)) a.m a.n a.ts a.gs = if r.way = 0 then none else some (a.ts.map fun t => cutU t (resultH r vv a.gs)) := by simp only [outS, hfk, hr, hgd, hvv]
                        have hrr := HAR.out r (List.mem_of_getElem? hr)
                        have hway := right_way hrr.1
                        subst k1 k2 k3 k4
                        have HSUM : Hid (t2 = sumL (qs.set at1 vv)) := by show _ = _; rw [← hvv, sumL_set qs hv, ← hsum.out, ht2]
                        have hck : w5.cell? ⟨E1, at1, none⟩ = some (.int .i64 (v : Int)) := by rw [cell_blk HAK5.out]; simp [I, hv]
                        have hcz : w5.frozen? ⟨E1, at1, none⟩ = false := frozen_blk HAK5.out at1
                        have hvi : (v : Int) + 1 = (vv : Int) := by omega
                        have hti : (tt : Int) + 1 = (t2 : Int) := by omega
                        have hvv40 : vv ≤ 41 := by omega
                        have ht241 : t2 ≤ i + 1 := by omega
                        have HR := hide hr; have HRR := hide hrr; have HO_ := hide ho; have HWY := hide hway
                        have hkn0 : (0 : Int) ≤ (at1 : Int) := by omega
                        have hkq : at1 < qs.length := by omega
                        obtain ⟨w6, hw6⟩ : ∃ x, w5.setCell ⟨E1, at1, none⟩ (.int .i64 (vv : Int)) = x := ⟨_, rfl⟩
                        have ho56 : Only [E1] w5 w6 := by rw [← hw6]; exact Only.setCell w5 (p := ⟨E1, at1, none⟩) (by simp) _
                        have HAK6 : Hid (w6.heap[E1]? = some (.cells ((qs.set at1 vv).map I).toArray 3 (0, 0))) := by
                          show _ = _
                          rw [← hw6, setCell_blk HAK5.out]
                          congr 2
                          apply Array.ext'
                          simp [List.map_set, I]
                        have HS6 : Hid (Hst w6 B1 E1 (.pointer (some ⟨gv, 0, none⟩)) (some (rs, qs.set at1 vv))) := HS5.out.other (B2 := E1) (E2 := E1 + 1) (AOnly.of_only ho56 (by omega)) (.inl (Nat.le_refl _))
                        have HO6 := hide (HO1.out.only ho56 (by simp))
                        have HAV6 := hide (HAV5.out.only ho56 (by simp; omega))
                        have HB6 := hide (HB5.out.trans (ho56.below (by omega) (by simp; omega)))
                        have hE6 : E1 + 1 ≤ w6.heap.size := by have := ho56.size; omega
                        have hrt6 := hide (hrt5.out.below (ho56.below (by omega) (by simp; omega)))
                        have hrg6 := hide (hrg5.out.below (ho56.below (by omega) (by simp; omega)))
                        have HW6 := hide hw6
                        have HQA : Hid (∀ W, grew w6 W → Calls Tryd.prog 12 #[.pointer (some ⟨gv, 0, none⟩), .int .i64 (at1 : Int)] W fun e w' => e = .returned (.int .i64 (vv : Int)) ∧ W = w') := by
                          intro W hW
                          have h := asked_all B1 E1 (.pointer (some ⟨gv, 0, none⟩)) (some (rs, qs.set at1 vv)) (at1 : Int) W (HS6.out.below hW)
                          rw [show askedS (some (rs, qs.set at1 vv)) (at1 : Int) = vv from by simp only [askedS]; rw [if_neg (by omega), Int.toNat_natCast, List.getD_eq_getElem?_getD, List.getElem?_set_self (by omega)]; rfl] at h
                          exact h
                        have HTT : Hid (∀ W, grew w6 W → Calls Tryd.prog 13 #[.pointer (some ⟨gv, 0, none⟩)] W fun e w' => e = .returned (.int .i64 (t2 : Int)) ∧ W = w') := by
                          intro W hW
                          have h := total_all B1 E1 (.pointer (some ⟨gv, 0, none⟩)) (some (rs, qs.set at1 vv)) W (HS6.out.below hW) (by intro rs' qs' e q' hq'; have := HFW'.out rs' qs' e q' hq'; omega)
                          rw [show totS (some (rs, qs.set at1 vv)) = t2 from HSUM.out.symm] at h
                          exact h
                        obtain ⟨ad2, r2, rfl, hr2, u0, u1, u2, u3, hab2⟩ := rule_at (h0.out.below HB6.out) (i := at1) (by have := hn.out; omega)
                        have hrr2 : r2 = r := by have a1 := hr2.out; rw [HR.out] at a1; injection a1 with a1; exact a1.symm
                        subst hrr2
                        have HU2 := hide u2; have HU3 := hide u3
                        obtain ⟨l0, l1, l2, l3, l4⟩ := HAV6.out.cs
                        have HL3 := hide l3; have HL4 := hide l4
                        obtain ⟨hne, hneq⟩ : ∃ x, (r2.way != 0) = x := ⟨_, rfl⟩
                        have hqw : q = hne := by
                          rw [← HQ.out, ho, ← hneq]
                          by_cases hz : r2.way = 0
                          · rw [if_pos hz, hz]; rfl
                          · rw [if_neg hz]; simp [hz]
                        subst hqw
                        have HNE := hide hneq
                        clear hfk hr hv hgd hvv ht2 ho hrr hway HST HIS1 HAT1 hkf hal HO1 HS5 HAV5 HB5 hE5 hrt5 hrg5 HAK5 ho56 hw6 hr2 u0 u1 u2 u3 l0 l1 l2 l3 l4 HFW HR hsum hneq
                        go_upto_region 39 with fail
                        rw [HW6.out]
                        clear hck hcz
                        refine wp_region_factsR grew_ext (factsOf [fun yy _ => yy = .pointer (some ⟨gv, 0, none⟩),
                          fun yy _ => yy = .int .i64 (at1 : Int),
                          fun yy _ => yy = .int .i64 (vv : Int),
                          fun yy _ => yy = .slice (some ⟨E1, 0, none⟩) n n,
                          fun yy _ => yy = .int .i64 (at1 : Int),
                          fun yy _ => yy = .pointer (some ⟨E1, at1, none⟩),
                          fun yy _ => yy = .int .i64 (vv : Int),
                          fun yy _ => yy = .bool false,
                          fun yy _ => yy = .bool false,
                          fun yy _ => yy = .pointer (some ⟨gv, 0, none⟩),
                          fun yy _ => yy = .int .i64 (t2 : Int),
                          fun yy _ => yy = .int .i64 (t2 : Int),
                          fun yy _ => yy = .bool false,
                          fun yy _ => yy = .bool false,
                          fun yy _ => yy = .bool false,
                          fun yy _ => yy = .bool q,
                          fun yy _ => yy = .slice (some ad2) n c0,
                          fun yy _ => yy = .int .i64 (at1 : Int),
                          fun yy _ => yy = .pointer (some (ad2.add (at1 * 4))),
                          fun yy _ => yy = .pointer (some ⟨(ad2.add (at1 * 4)).block, (ad2.add (at1 * 4)).off + 2, none⟩),
                          fun yy _ => yy = .int .i64 r2.way,
                          fun yy _ => yy = .bool q,
                          fun yy _ => yy = .bool false,
                          fun yy _ => yy = .bool false]) (by kernel_rfl) (by kernel_rfl) ?_ ?_
                        · refine ⟨?_, ?_, ?_, ?_, ?_, ?_, ?_, ?_, ?_, ?_, ?_, ?_, ?_, ?_, ?_, ?_, ?_, ?_, ?_, ?_, ?_, ?_, ?_, ?_, trivial⟩
                          · refine ⟨fun ρ W hk => ?_⟩
                            exact OpOut.move (.tmp 7) rfl ⟨Below.refl _ _, hk.old 7 (by decide)⟩
                          · refine ⟨fun ρ W hk => ?_⟩
                            exact OpOut.move (.tmp 13) rfl ⟨Below.refl _ _, hk.old 13 (by decide)⟩
                          · refine ⟨fun ρ W hk => ?_⟩
                            have h0 := (hk.fact 0 200 (by decide) rfl).pure
                            have h1 := (hk.fact 1 201 (by decide) rfl).pure
                            refine OpOut.fn (args := #[.pointer (some ⟨gv, 0, none⟩), .int .i64 (at1 : Int)]) rfl (hk.func _) (by simp [h0, h1]) Tryd.func12 (by kernel_rfl) rfl ?_
                            refine (HQA.out W hk.below).mono ?_; rintro e w7 ⟨rfl, rfl⟩
                            exact ⟨_, rfl, Below.refl _ _, rfl⟩
                          · refine ⟨fun ρ W hk => ?_⟩
                            exact OpOut.move (.tmp 9) rfl ⟨Below.refl _ _, hk.old 9 (by decide)⟩
                          · refine ⟨fun ρ W hk => ?_⟩
                            exact OpOut.move (.tmp 13) rfl ⟨Below.refl _ _, hk.old 13 (by decide)⟩
                          · refine ⟨fun ρ W hk => ?_⟩
                            have h3 := (hk.fact 3 203 (by decide) rfl).pure
                            have h4 := (hk.fact 4 204 (by decide) rfl).pure
                            exact OpOut.indexAddr (x := .tmp 203) (y := .tmp 204) rfl h3 h4 (by go_simp; try omega) ⟨Below.refl _ _, rfl⟩
                          · refine ⟨fun ρ W hk => ?_⟩
                            have h5 := (hk.fact 5 205 (by decide) rfl).pure
                            have hc : W.cell? ⟨E1, at1, none⟩ = some (.int .i64 (vv : Int)) := by rw [cell_blk ((hk.below.block E1 (by omega)).trans HAK6.out)]; simp [I, hkq]
                            exact OpOut.load (x := .tmp 205) rfl h5 (by go_simp) ⟨Below.refl _ _, rfl⟩
                          · refine ⟨fun ρ W hk => ?_⟩
                            have h2 := (hk.fact 2 202 (by decide) rfl).pure
                            have h6 := (hk.fact 6 206 (by decide) rfl).pure
                            exact OpOut.bin (x := .tmp 202) (y := .tmp 206) (v := .bool false) rfl (by rw [h2, h6]; go_simp) (by rw [h2, h6]; go_simp) ⟨Below.refl _ _, rfl⟩
                          · refine ⟨fun ρ W hk => ?_⟩
                            have h7 := (hk.fact 7 207 (by decide) rfl).pure
                            exact OpOut.move (.tmp 207) rfl ⟨Below.refl _ _, h7⟩
                          · refine ⟨fun ρ W hk => ?_⟩
                            have hg := (hk.fact 8 208 (by decide) rfl).pure
                            refine ⟨208, rfl, .inl ⟨false, hg, fun _ => ?_, fun h => absurd rfl h⟩⟩
                            exact OpOut.move (.tmp 7) rfl ⟨Below.refl _ _, hk.old 7 (by decide)⟩
                          · refine ⟨fun ρ W hk => ?_⟩
                            have hg := (hk.fact 8 208 (by decide) rfl).pure
                            refine ⟨208, rfl, .inl ⟨false, hg, fun _ => ?_, fun h => absurd rfl h⟩⟩
                            have h9 := (hk.fact 9 209 (by decide) rfl).pure
                            refine OpOut.fn (args := #[.pointer (some ⟨gv, 0, none⟩)]) rfl (hk.func _) (by simp [h9]) Tryd.func13 (by kernel_rfl) rfl ?_
                            refine (HTT.out W hk.below).mono ?_; rintro e w7 ⟨rfl, rfl⟩
                            exact ⟨_, rfl, Below.refl _ _, rfl⟩
                          · refine ⟨fun ρ W hk => ?_⟩
                            have hg := (hk.fact 8 208 (by decide) rfl).pure
                            refine ⟨208, rfl, .inl ⟨false, hg, fun _ => ?_, fun h => absurd rfl h⟩⟩
                            exact OpOut.move (.tmp 10) rfl ⟨Below.refl _ _, hk.old 10 (by decide)⟩
                          · refine ⟨fun ρ W hk => ?_⟩
                            have hg := (hk.fact 8 208 (by decide) rfl).pure
                            refine ⟨208, rfl, .inl ⟨false, hg, fun _ => ?_, fun h => absurd rfl h⟩⟩
                            have h10 := (hk.fact 10 210 (by decide) rfl).pure
                            have h11 := (hk.fact 11 211 (by decide) rfl).pure
                            exact OpOut.bin (x := .tmp 210) (y := .tmp 211) (v := .bool false) rfl (by rw [h10, h11]; go_simp) (by rw [h10, h11]; go_simp) ⟨Below.refl _ _, rfl⟩
                          · refine ⟨fun ρ W hk => ?_⟩
                            have h8 := (hk.fact 8 208 (by decide) rfl).pure
                            have h12 := (hk.fact 12 212 (by decide) rfl).pure
                            exact OpOut.pick (c := .tmp 208) (b := false) rfl h8 ⟨Below.refl _ _, h12⟩
                          · refine ⟨fun ρ W hk => ?_⟩
                            have h13 := (hk.fact 13 213 (by decide) rfl).pure
                            exact OpOut.move (.tmp 213) rfl ⟨Below.refl _ _, h13⟩
                          · refine ⟨fun ρ W hk => ?_⟩
                            have hg := (hk.fact 14 214 (by decide) rfl).pure
                            refine ⟨214, rfl, .inl ⟨false, hg, fun _ => ?_, fun h => absurd rfl h⟩⟩
                            exact OpOut.move (.tmp 18) rfl ⟨Below.refl _ _, hk.old 18 (by decide)⟩
                          · refine ⟨fun ρ W hk => ?_⟩
                            have hg := (hk.fact 14 214 (by decide) rfl).pure
                            refine ⟨214, rfl, .inl ⟨false, hg, fun _ => ?_, fun h => absurd rfl h⟩⟩
                            exact OpOut.move (.tmp 0) rfl ⟨Below.refl _ _, hk.old 0 (by decide)⟩
                          · refine ⟨fun ρ W hk => ?_⟩
                            have hg := (hk.fact 14 214 (by decide) rfl).pure
                            refine ⟨214, rfl, .inl ⟨false, hg, fun _ => ?_, fun h => absurd rfl h⟩⟩
                            exact OpOut.move (.tmp 13) rfl ⟨Below.refl _ _, hk.old 13 (by decide)⟩
                          · refine ⟨fun ρ W hk => ?_⟩
                            have hg := (hk.fact 14 214 (by decide) rfl).pure
                            refine ⟨214, rfl, .inl ⟨false, hg, fun _ => ?_, fun h => absurd rfl h⟩⟩
                            have h16 := (hk.fact 16 216 (by decide) rfl).pure
                            have h17 := (hk.fact 17 217 (by decide) rfl).pure
                            exact OpOut.indexAddr (x := .tmp 216) (y := .tmp 217) rfl h16 h17 (by go_simp; try omega) ⟨Below.refl _ _, rfl⟩
                          · refine ⟨fun ρ W hk => ?_⟩
                            have hg := (hk.fact 14 214 (by decide) rfl).pure
                            refine ⟨214, rfl, .inl ⟨false, hg, fun _ => ?_, fun h => absurd rfl h⟩⟩
                            have h18 := (hk.fact 18 218 (by decide) rfl).pure
                            exact OpOut.fieldAddr (x := .tmp 218) rfl h18 (by go_simp) ⟨Below.refl _ _, rfl⟩
                          · refine ⟨fun ρ W hk => ?_⟩
                            have hg := (hk.fact 14 214 (by decide) rfl).pure
                            refine ⟨214, rfl, .inl ⟨false, hg, fun _ => ?_, fun h => absurd rfl h⟩⟩
                            have h19 := (hk.fact 19 219 (by decide) rfl).pure
                            have hc : W.cell? ⟨(ad2.add (at1 * 4)).block, (ad2.add (at1 * 4)).off + 2, none⟩ = some (.int .i64 r2.way) := (hk.below.cell (p := ⟨(ad2.add (at1 * 4)).block, (ad2.add (at1 * 4)).off + 2, none⟩) (World.block_lt_of_cell? w6 _ HU2.out)).trans HU2.out
                            exact OpOut.load (x := .tmp 219) rfl h19 (by go_simp) ⟨Below.refl _ _, rfl⟩
                          · refine ⟨fun ρ W hk => ?_⟩
                            have hg := (hk.fact 14 214 (by decide) rfl).pure
                            refine ⟨214, rfl, .inl ⟨false, hg, fun _ => ?_, fun h => absurd rfl h⟩⟩
                            have h20 := (hk.fact 20 220 (by decide) rfl).pure
                            have hq0 := HNE.out
                            exact OpOut.bin (x := .tmp 220) (y := .const (.int .i64 0)) (v := .bool q) rfl (by rw [h20, hk.const]; go_simp) (by rw [h20, hk.const]; go_simp; try exact hq0) ⟨Below.refl _ _, rfl⟩
                          · refine ⟨fun ρ W hk => ?_⟩
                            have hg := (hk.fact 14 214 (by decide) rfl).pure
                            refine ⟨214, rfl, .inl ⟨false, hg, fun _ => ?_, fun h => absurd rfl h⟩⟩
                            have h15 := (hk.fact 15 215 (by decide) rfl).pure
                            have h21 := (hk.fact 21 221 (by decide) rfl).pure
                            exact OpOut.bin (x := .tmp 215) (y := .tmp 221) (v := .bool false) rfl (by rw [h15, h21]; go_simp) (by rw [h15, h21]; cases q <;> go_simp) ⟨Below.refl _ _, rfl⟩
                          · refine ⟨fun ρ W hk => ?_⟩
                            have h14 := (hk.fact 14 214 (by decide) rfl).pure
                            have h22 := (hk.fact 22 222 (by decide) rfl).pure
                            exact OpOut.pick (c := .tmp 214) (b := false) rfl h14 ⟨Below.refl _ _, h22⟩
                        · intro vs w7 hb hf
                          have e23 := (hf 23 (by decide)).pure
                          have HB67 := hide hb
                          clear hf hb
                          simp only [fillL]
                          rw [e23]
                          generalize vs 0 = vz0, vs 1 = vz1, vs 2 = vz2, vs 3 = vz3, vs 4 = vz4, vs 5 = vz5, vs 6 = vz6, vs 7 = vz7, vs 8 = vz8, vs 9 = vz9, vs 10 = vz10, vs 11 = vz11, vs 12 = vz12, vs 13 = vz13, vs 14 = vz14, vs 15 = vz15, vs 16 = vz16, vs 17 = vz17, vs 18 = vz18, vs 19 = vz19, vs 20 = vz20, vs 21 = vz21, vs 22 = vz22
                          clear e23
                          go_frame
                          have HS7 := hide (HS6.out.below HB67.out)
                          have HAK7 := hide ((HB67.out.block E1 (by omega)).trans HAK6.out)
                          have HB7 := hide (HB6.out.trans (HB67.out.mono (by omega)))
                          have hE7 : E1 + 1 ≤ w7.heap.size := by have := HB67.out.size; omega
                          have HO7 := hide (HO6.out.below HB67.out)
                          have hrt7 := hide (hrt6.out.below (HB67.out.mono (by omega)))
                          have hrg7 := hide (hrg6.out.below (HB67.out.mono (by omega)))
                          have HU27 : Hid (w7.cell? ⟨(ad2.add (at1 * 4)).block, (ad2.add (at1 * 4)).off + 2, none⟩ = some (.int .i64 r2.way)) := (HB67.out.cell (p := ⟨(ad2.add (at1 * 4)).block, (ad2.add (at1 * 4)).off + 2, none⟩) (World.block_lt_of_cell? w6 _ HU2.out)).trans HU2.out
                          have HU37 : Hid (w7.cell? ⟨(ad2.add (at1 * 4)).block, (ad2.add (at1 * 4)).off + 3, none⟩ = some (.int .u64 (r2.word : Int))) := (HB67.out.cell (p := ⟨(ad2.add (at1 * 4)).block, (ad2.add (at1 * 4)).off + 3, none⟩) (World.block_lt_of_cell? w6 _ HU3.out)).trans HU3.out
                          have HAV7 := hide (HAV6.out.below HB67.out)
                          clear HS6 HAK6 HB6 hE6 HO6 hrt6 hrg6 HU2 HU3 HAV6 HL3 HL4 HQA HTT HB67 HW6
                          by_cases hz : r2.way = 0
                          · as_aux_lemma =>
                              have k5 : q = false := by rw [← HNE.out, hz]; rfl
                              have k6 : ol = [] := by rw [← HOL.out, HO_.out, if_pos hz]; rfl
                              subst k5 k6
                              obtain ⟨P1, d1, rfl, _, _⟩ := HO7.out
                              clear HO7 hz HNE HOL HO_ HQ
                              go_wp2_with fail
                              go_roundw
                              case rel => exact ⟨i + 1, t2, qs.set at1 vv, by go_num, by go_num, by omega, HSUM, by omega, HS7, HAK7, HFW', HB7, hE7⟩
                              case measure => simp [intOf] <;> omega
                          · have k5 : q = true := by rw [← HNE.out]; simpa using hz
                            have k6 : ol = a.ts.map fun t => cutU t (resultH r2 vv a.gs) := by rw [← HOL.out, HO_.out, if_neg hz]; rfl
                            subst k5
                            have hO : ∃ A c, vx13 = .slice A a.ts.length c ∧ Reads w7 w7.heap.size 1 A a.ts.length ((a.ts.map fun t => cutU t (resultH r2 vv a.gs)).map U) := by
                              have := HO7.out
                              rw [k6] at this
                              obtain ⟨A, c, e, hr, _⟩ := this
                              rw [List.length_map] at e hr
                              exact ⟨A, c, e, hr⟩
                            obtain ⟨P1, d1, rfl, p1⟩ := hO
                            have hRL := resultH_le r2 vv a.gs HRR.out.2 hgu.out
                            obtain ⟨R, hR⟩ : ∃ R, resultH r2 vv a.gs = R := ⟨_, rfl⟩
                            rw [hR] at p1 hRL
                            have HP1 := hide p1
                            have hw4 := HWY.out
                            have hwd := HRR.out.2
                            obtain ⟨Ar, hAr⟩ : ∃ x, a.Ar = x := ⟨_, rfl⟩
                            obtain ⟨Ag, hAg⟩ : ∃ x, a.Ag = x := ⟨_, rfl⟩
                            obtain ⟨l0, l1, l2, l3, l4⟩ := HAV7.out.cs
                            rw [hAr] at l3 hrt7
                            rw [hAg] at l4 hrg7
                            have u2 := HU27.out
                            have u3 := HU37.out
                            clear HO7 k6 p1 HNE HOL HO_ HQ l0 l1 l2 HU27 HU37 HAV7 hAr hAg
                            obtain ⟨rm, rn, way, word⟩ := r2
                            simp only at u2 u3 hz hw4 hwd
                            have hcase : way = 1 ∨ way = 2 ∨ way = 3 ∨ way = 4 := by omega
                            unfold resultH at hR
                            simp only at hR
                            rcases hcase with rfl | rfl | rfl | rfl
                            · as_aux_lemma =>
                                rw [if_neg (by omega), if_neg (by omega), if_neg (by omega)] at hR
                                have hR2 := hR.symm
                                clear hR
                                subst hR2
                                go_upto_region 56 with fail
                                clear u2 u3
                                go_wp2_with fail
                                go_loop [21, 22] (fun j _ => ∃ jj : Nat, j = .int .i64 jj ∧ jj ≤ a.ts.length) (fun j _ => a.ts.length - (intOf j).toNat)
                                case atStart => exact ⟨0, rfl, by omega⟩
                                case round =>
                                  obtain ⟨jj, rfl, hjj⟩ := hrel
                                  by_cases hl5 : jj < a.ts.length
                                  · obtain ⟨ad4, c, rfl, hc, hcell, hc0, hc1⟩ := hrt7.out.byte (k := jj) hl5
                                    obtain ⟨ad5, uu, rfl, _, hu5, hc5⟩ := HP1.out.at_ (k := jj) hl5
                                    have huu : uu = .int .u64 (cutU c R : Int) := by
                                      rw [List.getElem?_map, List.getElem?_map, hc.out] at hu5
                                      injection hu5 with hu5
                                      exact hu5.symm
                                    subst huu
                                    have hj5 : (0 : Int) ≤ (jj : Int) := by omega
                                    clear hu5 hc
                                    by_cases h127 : c.toNat = 127
                                    · have e1 : ((c.toNat : Int) == 127) = true := by simp [h127]
                                      have e2 : ((cutU c R : Nat) : Int) = (R : Int) % 4294967296 := by unfold cutU; rw [if_pos h127]; omega
                                      rw [e2] at hc5
                                      clear h127 e2
                                      go_wp2_with fail
                                      go_round
                                      case rel => exact ⟨jj + 1, by go_num, by omega⟩
                                      case measure => simp [intOf] <;> omega
                                    · have e1 : ((c.toNat : Int) == 127) = false := by simp; omega
                                      have e2 : cutU c R = R := by unfold cutU; rw [if_neg h127]
                                      rw [e2] at hc5
                                      clear h127 e2
                                      go_wp2_with fail
                                      go_round
                                      case rel => exact ⟨jj + 1, by go_num, by omega⟩
                                      case measure => simp [intOf] <;> omega
                                  · go_wp2_with fail
                                    go_roundw
                                    case rel => exact ⟨i + 1, t2, qs.set at1 vv, by go_num, by go_num, by omega, HSUM, by omega, HS7, HAK7, HFW', HB7, hE7⟩
                                    case measure => simp [intOf] <;> omega
                            · as_aux_lemma =>
                                rw [if_pos rfl] at hR
                                go_upto_region 47 with fail
                                clear u2 u3
                                have HR0 : Hid (sumF word a.gs = R) := hR
                                clear hR
                                go_wp2_with fail
                                go_loop [19, 20] (fun x j => ∃ (jj u : Nat), x = .int .u64 (u : Int) ∧ j = .int .i64 (jj : Int) ∧ jj ≤ a.gs.length ∧ u ≤ 18446744073709551615 ∧ Hid (sumF u (a.gs.drop jj) = R)) (fun _ j => a.gs.length - (intOf j).toNat)
                                case atStart => exact ⟨0, word, rfl, rfl, by omega, hwd, HR0⟩
                                case round =>
                                  obtain ⟨jj, u, rfl, rfl, hjj, hu, hs⟩ := hrel
                                  by_cases hl4 : jj < a.gs.length
                                  · obtain ⟨ad6, x, rfl, hx, hcell⟩ := hrg7.out.elem (k := jj) hl4
                                    have hst : Hid (sumF ((u + x) % 18446744073709551616) (a.gs.drop (jj + 1)) = R) := by
                                      show _ = _
                                      obtain ⟨j1, j2⟩ := List.getElem?_eq_some_iff.1 hx.out
                                      rw [← hs.out, List.drop_eq_getElem_cons j1, j2]
                                      rfl
                                    unfold U at hcell
                                    have hwr : Hid (IntKind.u64.wrap ((u : Int) + (x : Int)) = (((u + x) % 18446744073709551616 : Nat) : Int)) := by show _ = _; rw [IntKind.wrap_u64]; omega
                                    have hj5 : (0 : Int) ≤ (jj : Int) := by omega
                                    clear hx hs
                                    go_wp2_with fail
                                    go_round
                                    case rel => exact ⟨jj + 1, (u + x) % 18446744073709551616, by first | rw [hwr.out] | (congr 1; omega), by go_num, by omega, by omega, hst⟩
                                    case measure => simp [intOf] <;> omega
                                  · have hur : u = R := by
                                      have := hs.out
                                      rw [List.drop_of_length_le (by omega)] at this
                                      exact this
                                    have hur2 := hur.symm
                                    clear hs hur
                                    subst hur2
                                    go_upto_region 56 with fail
                                    go_wp2_with fail
                                    go_loop [21, 22] (fun j _ => ∃ jj : Nat, j = .int .i64 jj ∧ jj ≤ a.ts.length) (fun j _ => a.ts.length - (intOf j).toNat)
                                    case atStart => exact ⟨0, rfl, by omega⟩
                                    case round =>
                                      obtain ⟨jj, rfl, hjj⟩ := hrel
                                      by_cases hl5 : jj < a.ts.length
                                      · obtain ⟨ad4, c, rfl, hc, hcell, hc0, hc1⟩ := hrt7.out.byte (k := jj) hl5
                                        obtain ⟨ad5, uu, rfl, _, hu5, hc5⟩ := HP1.out.at_ (k := jj) hl5
                                        have huu : uu = .int .u64 (cutU c R : Int) := by
                                          rw [List.getElem?_map, List.getElem?_map, hc.out] at hu5
                                          injection hu5 with hu5
                                          exact hu5.symm
                                        subst huu
                                        have hj5 : (0 : Int) ≤ (jj : Int) := by omega
                                        clear hu5 hc
                                        by_cases h127 : c.toNat = 127
                                        · have e1 : ((c.toNat : Int) == 127) = true := by simp [h127]
                                          have e2 : ((cutU c R : Nat) : Int) = (R : Int) % 4294967296 := by unfold cutU; rw [if_pos h127]; omega
                                          rw [e2] at hc5
                                          clear h127 e2
                                          go_wp2_with fail
                                          go_round
                                          case rel => exact ⟨jj + 1, by go_num, by omega⟩
                                          case measure => simp [intOf] <;> omega
                                        · have e1 : ((c.toNat : Int) == 127) = false := by simp; omega
                                          have e2 : cutU c R = R := by unfold cutU; rw [if_neg h127]
                                          rw [e2] at hc5
                                          clear h127 e2
                                          go_wp2_with fail
                                          go_round
                                          case rel => exact ⟨jj + 1, by go_num, by omega⟩
                                          case measure => simp [intOf] <;> omega
                                      · go_wp2_with fail
                                        go_roundw
                                        case rel => exact ⟨i + 1, t2, qs.set at1 vv, by go_num, by go_num, by omega, HSUM, by omega, HS7, HAK7, HFW', HB7, hE7⟩
                                        case measure => simp [intOf] <;> omega
                            · as_aux_lemma =>
                                rw [if_neg (by omega), if_pos rfl] at hR
                                have hck : w7.cell? ⟨E1, at1, none⟩ = some (.int .i64 (vv : Int)) := by rw [cell_blk HAK7.out]; simp [I, hkq]
                                have hwr : IntKind.u64.wrap ((word : Int) + (vv : Int)) = (R : Int) := by rw [IntKind.wrap_u64]; omega
                                have hcv : IntKind.u64.wrap (vv : Int) = (vv : Int) := by rw [IntKind.wrap_u64]; omega
                                go_upto_region 52 with fail
                                clear u2 u3
                                go_upto_region 56 with fail
                                go_wp2_with fail
                                go_loop [21, 22] (fun j _ => ∃ jj : Nat, j = .int .i64 jj ∧ jj ≤ a.ts.length) (fun j _ => a.ts.length - (intOf j).toNat)
                                case atStart => exact ⟨0, rfl, by omega⟩
                                case round =>
                                  obtain ⟨jj, rfl, hjj⟩ := hrel
                                  by_cases hl5 : jj < a.ts.length
                                  · obtain ⟨ad4, c, rfl, hc, hcell, hc0, hc1⟩ := hrt7.out.byte (k := jj) hl5
                                    obtain ⟨ad5, uu, rfl, _, hu5, hc5⟩ := HP1.out.at_ (k := jj) hl5
                                    have huu : uu = .int .u64 (cutU c R : Int) := by
                                      rw [List.getElem?_map, List.getElem?_map, hc.out] at hu5
                                      injection hu5 with hu5
                                      exact hu5.symm
                                    subst huu
                                    have hj5 : (0 : Int) ≤ (jj : Int) := by omega
                                    clear hu5 hc
                                    by_cases h127 : c.toNat = 127
                                    · have e1 : ((c.toNat : Int) == 127) = true := by simp [h127]
                                      have e2 : ((cutU c R : Nat) : Int) = (R : Int) % 4294967296 := by unfold cutU; rw [if_pos h127]; omega
                                      rw [e2] at hc5
                                      clear h127 e2
                                      go_wp2_with fail
                                      go_round
                                      case rel => exact ⟨jj + 1, by go_num, by omega⟩
                                      case measure => simp [intOf] <;> omega
                                    · have e1 : ((c.toNat : Int) == 127) = false := by simp; omega
                                      have e2 : cutU c R = R := by unfold cutU; rw [if_neg h127]
                                      rw [e2] at hc5
                                      clear h127 e2
                                      go_wp2_with fail
                                      go_round
                                      case rel => exact ⟨jj + 1, by go_num, by omega⟩
                                      case measure => simp [intOf] <;> omega
                                  · go_wp2_with fail
                                    go_roundw
                                    case rel => exact ⟨i + 1, t2, qs.set at1 vv, by go_num, by go_num, by omega, HSUM, by omega, HS7, HAK7, HFW', HB7, hE7⟩
                                    case measure => simp [intOf] <;> omega
                            · as_aux_lemma =>
                                rw [if_neg (by omega), if_neg (by omega), if_pos rfl] at hR
                                by_cases hg0 : a.gs = []
                                · have hgl : a.gs.length = 0 := by rw [hg0]; rfl
                                  rw [hg0] at hR
                                  have hRw : R = word := hR.symm
                                  rw [hgl] at l4
                                  clear hR hg0
                                  subst hRw
                                  go_upto_region 56 with fail
                                  clear u2 u3 hgl l4
                                  go_wp2_with fail
                                  go_loop [21, 22] (fun j _ => ∃ jj : Nat, j = .int .i64 jj ∧ jj ≤ a.ts.length) (fun j _ => a.ts.length - (intOf j).toNat)
                                  case atStart => exact ⟨0, rfl, by omega⟩
                                  case round =>
                                    obtain ⟨jj, rfl, hjj⟩ := hrel
                                    by_cases hl5 : jj < a.ts.length
                                    · obtain ⟨ad4, c, rfl, hc, hcell, hc0, hc1⟩ := hrt7.out.byte (k := jj) hl5
                                      obtain ⟨ad5, uu, rfl, _, hu5, hc5⟩ := HP1.out.at_ (k := jj) hl5
                                      have huu : uu = .int .u64 (cutU c R : Int) := by
                                        rw [List.getElem?_map, List.getElem?_map, hc.out] at hu5
                                        injection hu5 with hu5
                                        exact hu5.symm
                                      subst huu
                                      have hj5 : (0 : Int) ≤ (jj : Int) := by omega
                                      clear hu5 hc
                                      by_cases h127 : c.toNat = 127
                                      · have e1 : ((c.toNat : Int) == 127) = true := by simp [h127]
                                        have e2 : ((cutU c R : Nat) : Int) = (R : Int) % 4294967296 := by unfold cutU; rw [if_pos h127]; omega
                                        rw [e2] at hc5
                                        clear h127 e2
                                        go_wp2_with fail
                                        go_round
                                        case rel => exact ⟨jj + 1, by go_num, by omega⟩
                                        case measure => simp [intOf] <;> omega
                                      · have e1 : ((c.toNat : Int) == 127) = false := by simp; omega
                                        have e2 : cutU c R = R := by unfold cutU; rw [if_neg h127]
                                        rw [e2] at hc5
                                        clear h127 e2
                                        go_wp2_with fail
                                        go_round
                                        case rel => exact ⟨jj + 1, by go_num, by omega⟩
                                        case measure => simp [intOf] <;> omega
                                    · go_wp2_with fail
                                      go_roundw
                                      case rel => exact ⟨i + 1, t2, qs.set at1 vv, by go_num, by go_num, by omega, HSUM, by omega, HS7, HAK7, HFW', HB7, hE7⟩
                                      case measure => simp [intOf] <;> omega
                                · have hpos : 0 < a.gs.length := List.length_pos_iff.2 hg0
                                  obtain ⟨jl, hjl⟩ : ∃ j, a.gs.length = j + 1 := ⟨a.gs.length - 1, by omega⟩
                                  obtain ⟨ad6, x, rfl, hx, hcell⟩ := hrg7.out.elem (k := jl) (by omega)
                                  have hxR : x = R := by
                                    rw [← hR, List.getLast?_eq_getElem?, show a.gs.length - 1 = jl from by omega, hx.out]
                                    rfl
                                  unfold U at hcell
                                  rw [hjl] at l4
                                  have hjl20 : jl ≤ 20 := by omega
                                  have hxR2 := hxR.symm
                                  clear hR hg0 hpos hx hxR
                                  subst hxR2
                                  go_upto_region 56 with fail
                                  clear u2 u3 l4 hcell
                                  go_wp2_with fail
                                  go_loop [21, 22] (fun j _ => ∃ jj : Nat, j = .int .i64 jj ∧ jj ≤ a.ts.length) (fun j _ => a.ts.length - (intOf j).toNat)
                                  case atStart => exact ⟨0, rfl, by omega⟩
                                  case round =>
                                    obtain ⟨jj, rfl, hjj⟩ := hrel
                                    by_cases hl5 : jj < a.ts.length
                                    · obtain ⟨ad4, c, rfl, hc, hcell, hc0, hc1⟩ := hrt7.out.byte (k := jj) hl5
                                      obtain ⟨ad5, uu, rfl, _, hu5, hc5⟩ := HP1.out.at_ (k := jj) hl5
                                      have huu : uu = .int .u64 (cutU c R : Int) := by
                                        rw [List.getElem?_map, List.getElem?_map, hc.out] at hu5
                                        injection hu5 with hu5
                                        exact hu5.symm
                                      subst huu
                                      have hj5 : (0 : Int) ≤ (jj : Int) := by omega
                                      clear hu5 hc
                                      by_cases h127 : c.toNat = 127
                                      · have e1 : ((c.toNat : Int) == 127) = true := by simp [h127]
                                        have e2 : ((cutU c R : Nat) : Int) = (R : Int) % 4294967296 := by unfold cutU; rw [if_pos h127]; omega
                                        rw [e2] at hc5
                                        clear h127 e2
                                        go_wp2_with fail
                                        go_round
                                        case rel => exact ⟨jj + 1, by go_num, by omega⟩
                                        case measure => simp [intOf] <;> omega
                                      · have e1 : ((c.toNat : Int) == 127) = false := by simp; omega
                                        have e2 : cutU c R = R := by unfold cutU; rw [if_neg h127]
                                        rw [e2] at hc5
                                        clear h127 e2
                                        go_wp2_with fail
                                        go_round
                                        case rel => exact ⟨jj + 1, by go_num, by omega⟩
                                        case measure => simp [intOf] <;> omega
                                    · go_wp2_with fail
                                      go_roundw
                                      case rel => exact ⟨i + 1, t2, qs.set at1 vv, by go_num, by go_num, by omega, HSUM, by omega, HS7, HAK7, HFW', HB7, hE7⟩
                                      case measure => simp [intOf] <;> omega
                  · as_aux_lemma =>
                      obtain ⟨j, rfl⟩ : ∃ j, jj = j + 1 := ⟨jj - 1, by omega⟩
                      have HAV3 := hide (HAV.out.below hb3.out)
                      obtain ⟨ad2, r, rfl, hr, u0, u1, u2, u3, hab2⟩ := rule_at ((h0.out.below HB2.out).below (hb3.out.mono (by omega))) (i := j) (by have := hn.out; omega)
                      obtain ⟨l0, l1, l2, l3, l4⟩ := HAV3.out.cs
                      have hstep := findH_drop rs a.m a.n hr.out j
                      obtain rfl : z = (j : Int) := by omega
                      have hjn2 : (j : Int) < (n : Int) := by omega
                      have hjn0 : (0 : Int) ≤ (j : Int) := by omega
                      clear hr hz
                      cases m1 : (r.m == [42]) with
                      | true =>
                        cases n1 : (r.n == [42]) with
                        | true =>
                          have hfit : fitsH r a.m a.n = true := by unfold fitsH; simp only [← beq_d, m1, n1]; rfl
                          rw [hfit, if_pos rfl] at hstep
                          have HNX : Hid ((j : Int) = idxI (findH (rs.drop j) a.m a.n j)) := by show _ = _; rw [hstep]; rfl
                          clear hstep hfit hkk
                          go_wp2_with fail
                          go_quiet (fail)
                          go_wp2_with fail
                          go_roundw
                          case rel => exact ⟨j, (j : Int), (j : Int) - 1, rfl, by go_num, rfl, by omega, HNX, below_drewN3 hb3.out _⟩
                          case measure => simp [intOf] <;> omega
                        | false =>
                          cases n2 : (r.n == a.n) with
                          | true =>
                            have hfit : fitsH r a.m a.n = true := by unfold fitsH; simp only [← beq_d, m1, n1, n2]; rfl
                            rw [hfit, if_pos rfl] at hstep
                            have HNX : Hid ((j : Int) = idxI (findH (rs.drop j) a.m a.n j)) := by show _ = _; rw [hstep]; rfl
                            clear hstep hfit hkk
                            go_wp2_with fail
                            go_quiet (fail)
                            go_wp2_with fail
                            go_roundw
                            case rel => exact ⟨j, (j : Int), (j : Int) - 1, rfl, by go_num, rfl, by omega, HNX, below_drewN3 hb3.out _⟩
                            case measure => simp [intOf] <;> omega
                          | false =>
                            have hfit : fitsH r a.m a.n = false := by unfold fitsH; simp only [← beq_d, m1, n1, n2]; rfl
                            rw [hfit, if_neg (by simp)] at hstep
                            have HNX : Hid (kk = idxI (findH (rs.drop j) a.m a.n j)) := by show _ = _; rw [hstep, ← hkk.out]
                            clear hstep hfit hkk
                            go_wp2_with fail
                            go_quiet (fail)
                            go_wp2_with fail
                            go_roundw
                            case rel => exact ⟨j, kk, (j : Int) - 1, rfl, by go_num, rfl, by omega, HNX, below_drewN3 hb3.out _⟩
                            case measure => simp [intOf] <;> omega
                      | false =>
                        cases m2 : (r.m == a.m) with
                        | true =>
                          cases n1 : (r.n == [42]) with
                          | true =>
                            have hfit : fitsH r a.m a.n = true := by unfold fitsH; simp only [← beq_d, m1, m2, n1]; rfl
                            rw [hfit, if_pos rfl] at hstep
                            have HNX : Hid ((j : Int) = idxI (findH (rs.drop j) a.m a.n j)) := by show _ = _; rw [hstep]; rfl
                            clear hstep hfit hkk
                            go_wp2_with fail
                            go_quiet (fail)
                            go_wp2_with fail
                            go_roundw
                            case rel => exact ⟨j, (j : Int), (j : Int) - 1, rfl, by go_num, rfl, by omega, HNX, below_drewN3 hb3.out _⟩
                            case measure => simp [intOf] <;> omega
                          | false =>
                            cases n2 : (r.n == a.n) with
                            | true =>
                              have hfit : fitsH r a.m a.n = true := by unfold fitsH; simp only [← beq_d, m1, m2, n1, n2]; rfl
                              rw [hfit, if_pos rfl] at hstep
                              have HNX : Hid ((j : Int) = idxI (findH (rs.drop j) a.m a.n j)) := by show _ = _; rw [hstep]; rfl
                              clear hstep hfit hkk
                              go_wp2_with fail
                              go_quiet (fail)
                              go_wp2_with fail
                              go_roundw
                              case rel => exact ⟨j, (j : Int), (j : Int) - 1, rfl, by go_num, rfl, by omega, HNX, below_drewN3 hb3.out _⟩
                              case measure => simp [intOf] <;> omega
                            | false =>
                              have hfit : fitsH r a.m a.n = false := by unfold fitsH; simp only [← beq_d, m1, m2, n1, n2]; rfl
                              rw [hfit, if_neg (by simp)] at hstep
                              have HNX : Hid (kk = idxI (findH (rs.drop j) a.m a.n j)) := by show _ = _; rw [hstep, ← hkk.out]
                              clear hstep hfit hkk
                              go_wp2_with fail
                              go_quiet (fail)
                              go_wp2_with fail
                              go_roundw
                              case rel => exact ⟨j, kk, (j : Int) - 1, rfl, by go_num, rfl, by omega, HNX, below_drewN3 hb3.out _⟩
                              case measure => simp [intOf] <;> omega
                        | false =>
                          have hfit : fitsH r a.m a.n = false := by unfold fitsH; simp only [← beq_d, m1, m2]; rfl
                          rw [hfit, if_neg (by simp)] at hstep
                          have HNX : Hid (kk = idxI (findH (rs.drop j) a.m a.n j)) := by show _ = _; rw [hstep, ← hkk.out]
                          clear hstep hfit hkk
                          go_wp2_with fail
                          go_quiet (fail)
                          go_wp2_with fail
                          go_roundw
                          case rel => exact ⟨j, kk, (j : Int) - 1, rfl, by go_num, rfl, by omega, HNX, below_drewN3 hb3.out _⟩
                          case measure => simp [intOf] <;> omega
          · have HQ1 := hide (asked_all B1 E1 (.pointer (some ⟨gv, 0, none⟩)) (some (rs, qs)) (-1) wr HS1)
            have HQ2 := hide (asked_all B1 E1 (.pointer (some ⟨gv, 0, none⟩)) (some (rs, qs)) (n : Int) wr HS1)
            have z2 : askedS (some (rs, qs)) (n : Int) = 0 := by
              obtain ⟨_, _, _, _, _, h2, _⟩ := HS1.out
              simp only [askedS]
              rw [if_neg (by omega), Int.toNat_natCast, List.getD_eq_getElem?_getD, List.getElem?_eq_none (by have := h2.al; have := hn.out; omega)]
              rfl
            rw [z2] at HQ2
            clear z2
            go_wp2_with fail
            refine HQ1.out.mono ?_; rintro e w5 ⟨rfl, rfl⟩
            go_wp2_with fail
            refine HQ2.out.mono ?_; rintro e w5 ⟨rfl, rfl⟩
            go_wp2_with fail
            go_ret
            exact ⟨rfl, by rw [HB0.out]; exact HBR.out⟩
end Go.Proofs.YtnfaaiifbiobiaaDoor
