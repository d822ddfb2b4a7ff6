import Derived.Test.YtomppgohoplemaaGreatNCA
import Derived.Test.YtomppgohoplemaaGreatNCB
import Derived.Test.YtomppgohoplemaaGreatNCD
import Derived.Test.YtomppgohoplemaaGreatNBW
namespace Go.Proofs.YtomppgohoplemaaGreat
section
open Go.RowKit Go.Maps
set_option linter.unusedVariables false
theorem runP_zero {m : Mo} {f : Int} (h : (runP m f).2.2 = 0) : (unfitP m).2 = 0 ∧ 0 ≤ f ∧ f < (m.funcs.length : Int) ∧ errB (m.funcs.getD f.toNat noFu).bd = 0 := by
  unfold runP at h
  by_cases h1 : (unfitP m).2 ≠ 0
  · rw [if_pos h1] at h; cases h
  rw [if_neg h1] at h
  by_cases h2 : inB f m.funcs.length = true
  · rw [if_pos h2] at h
    by_cases h3 : errB (m.funcs.getD f.toNat noFu).bd ≠ 0
    · rw [if_pos h3] at h; exact absurd h h3
    · exact ⟨by omega, (inB_iff.1 h2).1, (inB_iff.1 h2).2, by omega⟩
  · rw [if_neg h2] at h; cases h
theorem mem_rowJ {i n : Nat} {p : Nat × Nat} (h : p ∈ rowJ i n) : p.1 = i ∧ p.2 < n := by
  unfold rowJ at h
  obtain ⟨k, hk, rfl⟩ := List.mem_map.1 h
  exact ⟨rfl, List.mem_range.1 hk⟩
theorem rowJ_at {i n k : Nat} (h : k < n) : (rowJ i n)[k]? = some (i, k) := by
  unfold rowJ
  rw [List.getElem?_map, List.getElem?_range h]
  rfl
theorem SidE.order_mem (v : SidE) {p : Nat × Nat} : ∀ {n : Nat}, p ∈ v.order n → p.1 < n ∧ p.2 < (v.lab p.1).length
  | 0, h => by simp [SidE.order] at h
  | n + 1, h => by
    rw [SidE.order_succ] at h
    rcases List.mem_append.1 h with h | h
    · have := order_mem v h; exact ⟨by omega, this.2⟩
    · obtain ⟨h1, h2⟩ := mem_rowJ h
      exact ⟨by omega, by rw [h1]; exact h2⟩
theorem SidE.order_at (v : SidE) {i k : Nat} (hk : k < (v.lab i).length) : ∀ {n : Nat}, i < n → (v.order n)[(v.order i).length + k]? = some (i, k)
  | 0, h => by omega
  | n + 1, h => by
    rw [SidE.order_succ]
    by_cases e : i = n
    · subst e
      rw [List.getElem?_append_right (by omega), show (v.order i).length + k - (v.order i).length = k by omega]
      exact rowJ_at hk
    · have := order_at v hk (n := n) (by omega)
      rw [List.getElem?_append_left (List.getElem?_eq_some_iff.1 this).1]
      exact this
theorem SidE.jumps_at (v : SidE) {i k n : Nat} (h : i < n) : v.jumps n 0 (i, k) = v.jmp i k := by
  unfold SidE.jumps ahead
  rw [if_pos (by simp; omega)]
theorem SidE.counts_at (v : SidE) {i n : Nat} (h : i < n) : (v.counts n i).getD 0 = (v.lab i).length := by
  unfold SidE.counts
  by_cases q : 0 < (v.lab i).length
  · rw [if_pos ⟨h, q⟩]; rfl
  · rw [if_neg (fun z => q z.2)]; simp; omega
theorem jump_small {m : MkS} (hm : MkOk m) {i k : Nat} (hk : k < (m.e.lab i).length) : ∃ d, m.e.jmp i k = some d ∧ d.dest ≤ 4294967295 ∧ d.keep ≤ 4294967295 ∧ d.h ≤ 4294967295 := by
  have hb : ∀ j, m.hs.l.getD j 0 ≤ 1000000000 := fun j => by
    rw [List.getD_eq_getElem?_getD]
    cases hc : m.hs.l[j]? with
    | none => simp
    | some x => exact hm.hb x (List.mem_of_getElem? hc)
  have hl : m.e.l.length = m.l.l.length := by simp [MkS.e]
  have hbel : ∀ j, belowN m.e.l m.e.hs j ≤ 1000000000 := fun j => by
    have := hb j
    unfold belowN
    split
    · show m.hs.l.getD j 0 - 1 ≤ _; omega
    · exact this
  refine ⟨_, by unfold SidE.jmp; rw [List.getElem?_eq_getElem hk]; rfl, ?_⟩
  generalize (m.e.lab i)[k] = q
  have hn := hm.n; have hr := hm.rs
  unfold jumpP
  cases hc : (arP m.e.sp i)[q]? with
  | none =>
    refine ⟨?_, ?_, by simp⟩
    · show m.e.l.length ≤ _; omega
    · show m.res ≤ _; omega
  | some x =>
    have hx : x ∈ m.sp.l := by
      have := List.mem_of_getElem? hc
      unfold arP at this
      exact List.mem_reverse.1 (List.mem_filter.1 this).1
    obtain ⟨a1, a2, a3, a4⟩ := hm.sp x hx
    have hbx := hbel x.1.toNat
    have hmn : manyN m.e.l x.1.toNat ≤ 1 := by unfold manyN; split <;> omega
    simp only
    split
    · exact ⟨by simp only; omega, by simp, by simp only; omega⟩
    · exact ⟨by simp only; omega, by simp only; omega, by simp only; omega⟩
theorem jmpAt_words {l : List Jmp} {rest : List UInt8} {i : Nat} {d : Jmp} (h : l[i]? = some d) (h1 : d.dest ≤ 4294967295) (h2 : d.keep ≤ 4294967295) (h3 : d.h ≤ 4294967295) : jmpAt (wordsB (l.flatMap jmpW) ++ rest) (12 * i) = d := by
  obtain ⟨e1, e2, e3⟩ := jmpW_at h
  have w1 := word_at (rest := rest) e1 (by omega)
  have w2 := word_at (rest := rest) e2 (by omega)
  have w3 := word_at (rest := rest) e3 (by omega)
  unfold jmpAt wordA
  rw [show 12 * i = 4 * (3 * i) by omega, w1, show 4 * (3 * i) + 4 = 4 * (3 * i + 1) by omega, w2, show 4 * (3 * i) + 8 = 4 * (3 * i + 2) by omega, w3]
theorem jlist_at {J : Nat × Nat → Option Jmp} {ord : List (Nat × Nat)} {i : Nat} {p : Nat × Nat} {d : Jmp} (h : ord[i]? = some p) (hd : J p = some d) : (jlist J ord)[i]? = some d := by
  unfold jlist
  rw [List.getElem?_map, h]
  simp [hd]
theorem lab_few {x : XI} : (labelsX x).length ≤ x.l.length + 1 := by
  unfold labelsX
  split
  · simp
  · split <;> simp
structure TabOk (v : SidE) (N : Nat) : Prop where
  len : v.l.length = N
  n : N ≤ 151
  few : (v.order N).length ≤ 200000
  jmp : ∀ p ∈ v.order N, ∃ d, v.jumps N 0 p = some d ∧ d.dest ≤ 4294967295 ∧ d.keep ≤ 4294967295 ∧ d.h ≤ 4294967295
  sm : ∀ p ∈ v.order N, p.1 ≤ 1000000 ∧ p.2 ≤ 1000000
  at_ : ∀ i k, i < N → k < (v.lab i).length → (v.order N)[(v.order i).length + k]? = some (i, k) ∧ (v.order i).length + k < (v.order N).length
  lab : ∀ i, (v.lab i).length ≤ 200
theorem tab_ok {m : MkS} (hm : MkOk m) (hn : m.e.l.length ≤ 151) (hl : ∀ x ∈ m.e.l, x.l.length ≤ 110) : TabOk m.e m.e.l.length := by
  have hlab : ∀ i, (m.e.lab i).length ≤ 200 := fun i => by
    unfold SidE.lab xAt
    rw [List.getD_eq_getElem?_getD]
    cases hc : m.e.l[i]? with
    | none => simp [noXI, labelsX]
    | some x =>
      have h1 := hl x (List.mem_of_getElem? hc)
      have h2 := lab_few (x := x)
      show (labelsX x).length ≤ 200
      omega
  refine ⟨rfl, hn, ?_, fun p hp => ?_, fun p hp => ?_, fun i k hi hk => ?_, hlab⟩
  · have := order_len m.e hlab m.e.l.length; omega
  · obtain ⟨h1, h2⟩ := m.e.order_mem hp
    obtain ⟨d, hd, r⟩ := jump_small hm h2
    exact ⟨d, (m.e.jumps_at h1).trans hd, r⟩
  · obtain ⟨h1, h2⟩ := m.e.order_mem hp
    have := hlab p.1
    omega
  · have h := m.e.order_at hk hi
    exact ⟨h, (List.getElem?_eq_some_iff.1 h).1⟩
end
section
open Go.RowKit Go.Maps
set_option linter.unusedVariables false
structure SIn (W : World) (xg : Nat) (m : MoL) (ml : Int) : Prop where
  cells : ∀ V, Below W.heap.size W V → (V.cell? ⟨xg, 0, none⟩ = some (.slice m.sigs.at_ m.sigs.l.length m.sigs.cap) ∧ V.cell? ⟨xg, 1, none⟩ = some (.slice m.imps.at_ m.imps.l.length m.imps.cap) ∧ V.cell? ⟨xg, 2, none⟩ = some (.slice m.funcs.at_ m.funcs.l.length m.funcs.cap) ∧ V.cell? ⟨xg, 3, none⟩ = some (.int .i64 m.table) ∧ V.cell? ⟨xg, 4, none⟩ = some (.slice m.mems.at_ m.mems.l.length m.mems.cap) ∧ V.cell? ⟨xg, 5, none⟩ = some (.slice m.gls.at_ m.gls.l.length m.gls.cap) ∧ V.cell? ⟨xg, 6, none⟩ = some (.slice m.exs.at_ m.exs.l.length m.exs.cap) ∧ V.cell? ⟨xg, 7, none⟩ = some (.int .i64 m.start) ∧ V.cell? ⟨xg, 8, none⟩ = some (.slice m.els.at_ m.els.l.length m.els.cap) ∧ V.cell? ⟨xg, 9, none⟩ = some (.slice m.das.at_ m.das.l.length m.das.cap)) ∧ MoIn V m ∧ V.cell? ⟨0, 0, none⟩ = some (.int .i64 ml)
theorem sin_of {w : World} {m : MoL} {ml : Int} (h : MoIn w m) (hml : w.cell? ⟨0, 0, none⟩ = some (.int .i64 ml)) : ∃ W xg, w.alloc (.cells m.cs.toArray 31) = W ∧ w.heap.size = xg ∧ Below w.heap.size w W ∧ SIn W xg m ml := by
  obtain ⟨W, hW, hb, hx, _⟩ := box_new w m.cs.toArray 31
  refine ⟨W, _, hW, rfl, hb, ⟨fun V hV => ?_⟩⟩
  have hk := (hV.block _ (blk_lt hx)).trans hx
  have hwV : Below w.heap.size w V := hb.trans (hV.mono hb.size)
  exact ⟨⟨cell_blk hk 0, cell_blk hk 1, cell_blk hk 2, cell_blk hk 3, cell_blk hk 4, cell_blk hk 5, cell_blk hk 6, cell_blk hk 7, cell_blk hk 8, cell_blk hk 9⟩, h.below hwV, (hwV.cell (World.block_lt_of_cell? w _ hml)).trans hml⟩
def TabP (m : MoL) (f : Int) (w : World) (e : Ending) (w' : World) : Prop :=
  Hid (Below w.heap.size w w') ∧ ((∃ er : Int, e = .returned (.tuple #[.pointer none, .int .i64 er]) ∧ (er != 0) = true) ∨
    (∃ (i : Nat) (y : FuL) (v : SidE) (W0 : World) (sg : Nat) (mk : MkS) (vo : Value) (nj nc nk : Nat), f = (i : Int) ∧ Hid (m.funcs.l[i]? = some y) ∧ Hid (TabOk v y.bd.l.l.length) ∧ e = .returned (.tuple #[.pointer (some ⟨sg, 0, none⟩), .int .i64 0]) ∧ Hid (sg = W0.heap.size + 3) ∧ Hid (Br W0 w' mk vo nj nc nk (v.jumps y.bd.l.l.length 0) (v.counts y.bd.l.l.length) v.skips (v.order y.bd.l.l.length))))
theorem new_tab {g : Nat} {m1 : MoL} (m : MoL) (f : Int) (w : World) (ml : Int) (hM : Hid (MoAt w g m1)) (hg : Hid (m1.g = m.g)) (hs1 : Hid (MoSm m1)) (hs : Hid (MoSm m)) (hml : Hid (w.cell? ⟨0, 0, none⟩ = some (.int .i64 ml))) :
    Calls Tryz.prog 7 #[.pointer (some ⟨g, 0, none⟩), .int .i64 f] w (TabP m f w) := by
  have hH := heights_of _ f w _ (hide (run_any g m1 f w ml hM (hide hs1.out.sz) (hide hs1.out.bd) hml))
  by_cases hz : (runP m1.g f).2.2 = 0
  · have hz' := hz
    rw [hg.out] at hz'
    obtain ⟨hu, hf0, hfl, he⟩ := runP_zero hz'
    obtain ⟨i, rfl⟩ : ∃ i : Nat, f = (i : Int) := ⟨f.toNat, by omega⟩
    rw [Int.toNat_natCast] at he
    have hil : i < m.funcs.l.length := by simp [MoL.g] at hfl; exact hfl
    obtain ⟨y, hy⟩ : ∃ y, m.funcs.l[i]? = some y := ⟨_, List.getElem?_eq_getElem hil⟩
    have hgy : m.g.funcs[i]? = some y.g := by simp [MoL.g, hy]
    have hgd : m.g.funcs.getD i noFu = y.g := getD_some hgy
    have hgy1 : m1.g.funcs[i]? = some y.g := by rw [hg.out]; exact hgy
    obtain ⟨y1, hy1, hyg1⟩ : ∃ y1, m1.funcs.l[i]? = some y1 ∧ y1.g = y.g := by
      have h : (m1.funcs.l.map FuL.g)[i]? = some y.g := hgy1
      rw [List.getElem?_map] at h
      cases hc : m1.funcs.l[i]? with
      | none => rw [hc] at h; cases h
      | some y1 => rw [hc] at h; exact ⟨y1, rfl, by simpa using h⟩
    have he1 : errB y1.bd.g = 0 := by
      have : y1.bd.g = y.bd.g := congrArg MFu.bd hyg1
      rw [this]
      rw [hgd] at he
      exact he
    refine (new_ok g m1 i y1 w hM hs1 (hide (by rw [hg.out]; exact hu)) hy1 (hide he1) (hide hz) (hide hH)).mono ?_
    rintro e w' ⟨W0, mk, vo, nj, nc, nk, rfl, hsg, hB0, hme, hmo, hBr⟩
    have hl : (sideE m1.g i).l = y.bd.l.l.map XL.x := by
      unfold sideE
      rw [hg.out, hgd]
      rfl
    have hlen : (sideE m1.g i).l.length = y.bd.l.l.length := by rw [hl]; simp
    have hbd := hs.out.func y (List.mem_of_getElem? hy)
    have hT := tab_ok hmo.out (by rw [hme.out, hlen]; exact hbd.l) (by
      rw [hme.out, hl]
      intro x hx
      obtain ⟨z, hz, rfl⟩ := List.mem_map.1 hx
      exact hbd.lab z hz)
    rw [hme.out, hlen] at hT
    have hBr' := hBr.out
    rw [hlen] at hBr'
    exact ⟨hide (hB0.out.trans (hBr'.low.mono hB0.out.size)), .inr ⟨i, y, sideE m1.g i, W0, _, mk, vo, nj, nc, nk, rfl, hide hy, hide hT, rfl, hide hsg, hide hBr'⟩⟩
  · refine (new_err _ f w _ (hide hH) hz).mono ?_
    rintro e w' ⟨rfl, hb⟩
    exact ⟨hb, .inl ⟨_, rfl, by simp; omega⟩⟩
end
section
open Go.RowKit Go.Maps
set_option linter.unusedVariables false
set_option maxRecDepth 100000 in
theorem run_neq_jmp (r : Jmp) (W : World) : (binOp .neq 55 (.agg #[.int .i64 (r.dest : Int), .int .i64 (r.keep : Int), .int .i64 (r.h : Int)]) (.agg #[.int .i64 (r.dest : Int), .int .i64 (r.keep : Int), .int .i64 (r.h : Int)])).run Tryz.prog W = .ok (.bool false) W := by
  have hS : Tryz.prog.underlying 55 = some (.struct (Tryz.prog.fieldsOf 55)) := by kernel_rfl
  have hp : Tryz.prog.stoodInHeld 55 = false := by kernel_rfl
  rw [run_neq_struct, show (10000 : Nat) = 9999 + 1 from rfl, run_equalIn_agg W 9999 55 _ _ hS hp]
  simp only [Program.fieldsOf, Tryz.underlying55]
  go_simp
set_option maxRecDepth 100000 in
set_option maxHeartbeats 12800000 in
theorem sideputs_any (m : MoL) (f : Int) (n : Nat) (w : World) (ml : Int) (hn : n ≤ 65535) (h : Hid (MoIn w m)) (hr : Hid (MoRe m)) (hml : Hid (w.cell? ⟨0, 0, none⟩ = some (.int .i64 ml))) :
    Calls Tryz.prog 3 #[.agg m.cs.toArray, .int .i64 f, .int .u16 (n : Int)] w fun e w' => e = .returned (.bool true) ∧ Hid (Below w.heap.size w w') := by
  obtain ⟨W, xg, hW, hxg, hb, hin⟩ := sin_of h.out hml.out
  have HIN := hide hin; have HW := hide hW; have HXG := hide hxg; have HB := hide hb
  clear hW hxg hb hin
  have HG := hide (fun (V : World) (hV : Below W.heap.size W V) => great7_any m V (hide (HIN.out.cells V hV).2.1) hr)
  have HA : Hid (∀ V, Below W.heap.size W V → Calls Tryz.prog 6 #[] V fun e w' => e = .returned (.bool true) ∧ Hid (Below V.heap.size V w')) := fun V hV => awake18 V ml (hide (HIN.out.cells V hV).2.2)
  have HTX0 := hide (fun (V : World) (hV : Below W.heap.size W V) (hs : Hid (MoSm m)) => lto_any m V (hide (HIN.out.cells V hV).2.1) hs)
  unfold MoL.cs Sl.val at HW HG HTX0 ⊢
  go_enter Tryz.func3, Tryz.ntmps3
  go_upto_region 1 with fail
  rw [HW.out, HXG.out]
  obtain ⟨⟨c0, c1, c2, c3, c4, c5, c6, c7, c8, c9⟩, _, _⟩ := HIN.out.cells W (Below.refl _ _)
  go_wp2_with fail
  refine (HG.out W (Below.refl _ _)).mono ?_; rintro e w1 ⟨x, rfl, hx0, hxs, hb1⟩
  clear c0 c1 c2 c3 c4 c5 c6 c7 c8 c9
  by_cases hx : 0 < x
  · have hgt : decide ((0 : Int) < x) = true := decide_eq_true hx
    clear hx0
    go_wp2_with fail
    refine (HA.out w1 hb1.out).mono ?_; rintro e w2 ⟨rfl, hb2⟩
    go_wp2_with fail
    go_ret
    exact ⟨rfl, HB.out.trans ((hb1.out.trans (hb2.out.mono hb1.out.size)).mono HB.out.size)⟩
  have hxz : x = 0 := by omega
  subst hxz
  have HSM : Hid (MoSm m) := (hxs.out rfl).1.sm
  clear hx hx0 hxs HG
  have HTX := hide (fun (V : World) (hV : Below W.heap.size W V) => HTX0.out V hV HSM)
  clear HTX0
  go_wp2_with fail
  refine (HA.out w1 hb1.out).mono ?_; rintro e w2 ⟨rfl, hb2⟩
  have hB2 := hide (hb1.out.trans (hb2.out.mono hb1.out.size))
  clear hb1 hb2 HA
  obtain ⟨⟨c0, c1, c2, c3, c4, c5, c6, c7, c8, c9⟩, _, _⟩ := HIN.out.cells w2 hB2.out
  go_wp2_with fail
  refine (HTX.out w2 hB2.out).mono ?_; rintro e w3 ⟨g3, m3, rfl, hM3, hg3, hS3, hb3⟩
  have hB3 := hide (hB2.out.trans (hb3.out.mono hB2.out.size))
  clear c0 c1 c2 c3 c4 c5 c6 c7 c8 c9 hb3 HTX hB2
  have HNW := hide (new_tab m f w3 ml hM3 hg3 hS3 HSM (hide (HIN.out.cells w3 hB3.out).2.2))
  clear hM3 hg3 hS3
  go_wp2_with fail
  refine HNW.out.mono ?_; intro e w4 hT
  obtain ⟨hb4, hT⟩ := hT
  have HB4 := hide (hB3.out.trans (hb4.out.mono hB3.out.size))
  clear hb4 HNW hB3
  rcases hT with ⟨er, rfl, hne⟩ | ⟨i, y, v, W0, sg, mk, vo, nj, nc, nk, rfl, hy, hTab, rfl, hsg, hBr⟩
  · go_wp2_with fail
    go_ret
    exact ⟨rfl, HB.out.trans (HB4.out.mono HB.out.size)⟩
  obtain ⟨N, hN⟩ : ∃ N, y.bd.l.l.length = N := ⟨_, rfl⟩
  rw [hN] at hTab hBr
  obtain ⟨L, hL⟩ : ∃ L, (v.order N).length = L := ⟨_, rfl⟩
  have hfew : L ≤ 200000 := by have := hTab.out.few; omega
  have HN := hide hN; have HLL := hide hL
  clear hN hL
  go_wp2_with fail
  refine (anew_any n w4 hn).mono ?_; rintro e w5 ⟨s, rfl, hA, hNA, hb5⟩
  have hsz : s.size = n := hNA.out.size
  have hsh : s.hgt = 0 := hNA.out.hgt
  have HLEN := hide (fun (V : World) (hV : Below w4.heap.size w4 V) => slen_any V (hide (hBr.out.below hV)) sg hsg.out)
  rw [HLL.out] at HLEN
  by_cases hc : n < clsN (12 * L)
  · have HP := hide (sput_full w4 w5 hBr hb5 sg hsg.out s hA (by rw [HLL.out]; exact hfew) (by rw [HLL.out, hsz, hsh]; omega))
    have HB5 : Hid (Below W.heap.size W w5) := hide (HB4.out.trans (hb5.out.mono HB4.out.size))
    clear hA hNA hsz hsh hTab
    go_wp2_with fail
    refine HP.out.mono ?_; rintro e w6 ⟨rfl, hb6⟩
    have HB6 : Hid (Below W.heap.size W w6) := hide (HB5.out.trans (hb6.out.mono HB5.out.size))
    have h46 := hb5.out.trans (hb6.out.mono hb5.out.size)
    have HL6 := hide (HLEN.out w6 h46)
    have HC := hide (aclass_any (12 * L) w6 (by omega))
    rw [show ((12 * L : Nat) : Int) = 12 * (L : Int) from by omega] at HC
    obtain ⟨cc, hcc⟩ : ∃ cc, clsN (12 * L) = cc := ⟨_, rfl⟩
    rw [hcc] at HC hc
    have hci : (n : Int) < (cc : Int) := by omega
    have hLi : (L : Int) ≤ 200000 := by omega
    clear HP HLEN hcc h46 hb6 HB5 hBr hc
    go_wp2_with fail
    refine HL6.out.mono ?_; rintro e w7 ⟨rfl, rfl⟩
    go_wp2_with fail
    refine HC.out.mono ?_; rintro e w7 ⟨rfl, rfl⟩
    go_wp2_with fail
    go_ret
    exact ⟨rfl, HB.out.trans (HB6.out.mono HB.out.size)⟩
  have HP := hide (sput_ok w4 w5 hBr hb5 sg hsg.out s n hA hNA (by rw [HLL.out]; exact hfew) (hide hTab.out.jmp) (hide hTab.out.sm) (by rw [HLL.out, hsz]; omega))
  go_wp2_with fail
  refine HP.out.mono ?_; rintro e w6 ⟨rfl, bs, rest, hAr, hbs, hb6⟩
  have h46 : Below w4.heap.size w4 w6 := hb5.out.trans hb6.out
  have HB6 : Hid (Below W.heap.size W w6) := hide (HB4.out.trans (h46.mono HB4.out.size))
  have hBr6 := hide (hBr.out.below h46)
  have HSG := hide hsg.out
  rw [HLL.out] at hAr
  obtain ⟨cc, hcc⟩ : ∃ cc, clsN (12 * L) = cc := ⟨_, rfl⟩
  have hge : 12 * L ≤ cc := by have := clsN_ge (n := 12 * L) (by omega); omega
  rw [hcc] at hAr hc
  obtain ⟨S, hS⟩ : ∃ S, ({ s.took cc with bs := bs } : ArS) = S := ⟨_, rfl⟩
  have e1 : S.ag = s.ag := by rw [← hS]; rfl
  have e2 : S.size = n := by rw [← hS]; exact hsz
  have e3 : S.live = cc := by rw [← hS]; rfl
  have e4 : S.bs = wordsB ((jlist (v.jumps N 0) (v.order N)).flatMap jmpW) ++ rest := by rw [← hS]; exact hbs.out
  rw [hS] at hAr
  rw [← e1]
  have HE2 := hide e2; have HE3 := hide e3; have HE4 := hide e4; have HCC := hide hcc
  clear e1 e2 e3 e4 hS hbs hcc hA hNA hsz hsh HP HLEN h46 hb6 hb5 hBr
  have hAd : ∃ ad, m.funcs.at_ = some ad := by
    obtain ⟨ad, ha, _⟩ := (HIN.out.cells w6 HB6.out).2.1.funcs.at_ (fun _ => rfl) hy.out
    exact ⟨ad, ha⟩
  obtain ⟨ad, had⟩ := hAd
  have hil : i < m.funcs.l.length := (List.getElem?_eq_some_iff.1 hy.out).1
  have HX : Hid (∀ V, Below w6.heap.size w6 V → V.cell? ⟨xg, 2, none⟩ = some (.slice (some ad) m.funcs.l.length m.funcs.cap) ∧ V.cell? ⟨(ad.add (i * 3)).block, (ad.add (i * 3)).off + 2, none⟩ = some (.slice y.bd.l.at_ N y.bd.l.cap)) := fun V hV => by
    have hc := HIN.out.cells V (HB6.out.trans (hV.mono HB6.out.size))
    obtain ⟨ad9, ha9, _, _, kj⟩ := hc.2.1.funcs.at_ (fun _ => rfl) hy.out
    have e9 : ad9 = ad := by rw [had] at ha9; injection ha9 with e; exact e.symm
    subst e9
    refine ⟨by rw [← had]; exact hc.1.2.2.1, ?_⟩
    have := kj 2 (by omega) (by omega) _ rfl
    rw [← HN.out]
    exact this
  have HAD := hide had
  clear had
  go_wp2_with fail
  go_loopw [13, 14, 15, 16, 17, 18, 19] (fun a b _ _ _ _ _ V => ∃ (k c : Nat), b = .int .i64 (k : Int) ∧ a = .int .i64 (c : Int) ∧ k ≤ N ∧ Hid (c = (v.order k).length) ∧ Hid (Below w6.heap.size w6 V)) (fun _ b _ _ _ _ _ _ => N - (intOf b).toNat)
  case atStart => exact ⟨0, 0, rfl, rfl, Nat.zero_le _, hide (by simp [SidE.order]), hide (Below.refl _ _)⟩
  case round =>
    obtain ⟨k, c, rfl, rfl, hk, hcl, hbw⟩ := hrel
    obtain ⟨x2, x3⟩ := HX.out wr hbw.out
    by_cases hlt : k < N
    · have hki : (k : Int) < (N : Int) := by omega
      obtain ⟨M, hM⟩ : ∃ M, (v.lab k).length = M := ⟨_, rfl⟩
      have HCT := hide (fun (V : World) (hV : Below w6.heap.size w6 V) => scount_any V (hide (hBr6.out.below hV)) sg HSG.out k (by have := hTab.out.n; omega))
      rw [v.counts_at hlt, hM] at HCT
      have hMb : (M : Int) ≤ 200 := by have := hTab.out.lab k; omega
      have hkb : (k : Int) ≤ 151 := by have := hTab.out.n; omega
      have HM := hide hM
      clear hM
      go_wp2_with fail
      clear x2 x3
      go_loopw [13, 15, 16, 17, 18, 19] (fun a b _ _ _ _ V => ∃ (q c2 : Nat), b = .int .i64 (q : Int) ∧ a = .int .i64 (c2 : Int) ∧ q ≤ M ∧ Hid (c2 = c + q) ∧ Hid (Below w6.heap.size w6 V)) (fun _ b _ _ _ _ _ => M - (intOf b).toNat)
      case atStart => exact ⟨0, c, rfl, rfl, Nat.zero_le _, hide rfl, hbw⟩
      case round =>
        clear hbw
        obtain ⟨q, c2, rfl, rfl, hq, hc2, hbw⟩ := hrel
        have HC2 := hide (HCT.out wr hbw.out)
        by_cases hlq : q < M
        · have hqi : (q : Int) < (M : Int) := by omega
          have hqb : (q : Int) ≤ 200 := by omega
          obtain ⟨ho1, ho2⟩ := hTab.out.at_ k q hlt (by rw [HM.out]; exact hlq)
          obtain ⟨d, hd, d1, d2, d3⟩ := hTab.out.jmp _ (List.mem_of_getElem? ho1)
          have hlb := hTab.out.lab k
          have hn151 := hTab.out.n
          rw [HM.out] at hlb
          rw [← hcl.out, ← hc2.out] at ho1 ho2
          rw [HLL.out] at ho2
          have hfit : Hid (FitsJ S.size 0 (c2 : Int)) := by
            show FitsJ _ _ _
            unfold FitsJ
            rw [HE2.out]
            omega
          have hj : Hid (jmpAt S.bs (0 + 12 * (c2 : Int)).toNat = d) := by
            show _ = _
            rw [HE4.out, show (0 + 12 * (c2 : Int)).toNat = 12 * c2 from by omega]
            exact jmpAt_words (jlist_at ho1 hd) d1 d2 d3
          have HLB := hide (slabel_any wr (hide (hBr6.out.below hbw.out)) sg HSG.out k q (by omega) (by omega) d hd)
          have hci : (c2 : Int) ≤ 200000 := by omega
          clear ho1 ho2 hd d1 d2 d3 hlb hn151
          go_wp2_with fail
          refine HC2.out.mono ?_; rintro e w7 ⟨rfl, rfl⟩
          clear HC2
          go_wp2_with fail
          refine HLB.out.mono ?_; rintro e w7 ⟨rfl, hb7⟩
          obtain ⟨W7, hW7, hb8, hx7, hs7⟩ := box_new w7 #[.int .i64 (d.dest : Int), .int .i64 (d.keep : Int), .int .i64 (d.h : Int)] 55
          have HB7 : Hid (Below w6.heap.size w6 W7) := hide (hbw.out.trans ((hb7.out.trans (hb8.mono hb7.out.size)).mono hbw.out.size))
          have HW7 := hide hW7; have HX7 := hide hx7
          have HGT := hide (sget_any S 0 (c2 : Int) W7 (hide (hAr.out.below HB7.out)) (by omega))
          clear hb7 hb8 hW7 hs7 hx7 HLB
          unfold jV
          go_upto_region 18 with fail
          rw [HW7.out]
          go_wp2_with fail
          refine HGT.out.mono ?_; intro e w8 hG
          obtain ⟨hb8, hG⟩ := hG
          rcases hG with ⟨_, rfl⟩ | ⟨hnf, _⟩
          rotate_left
          · exact absurd hfit.out hnf
          rw [hj.out]
          obtain ⟨W9, hW9, hb9, hx9, hs9⟩ := box_new w8 #[.int .i64 (d.dest : Int), .int .i64 (d.keep : Int), .int .i64 (d.h : Int)] 55
          have hb79 := hb8.out.trans (hb9.mono hb8.out.size)
          have HB9 : Hid (Below w6.heap.size w6 W9) := hide (HB7.out.trans (hb79.mono HB7.out.size))
          have hx79 := (hb79.block _ (blk_lt HX7.out)).trans HX7.out
          have u0 := cell_blk hx9 0; have u1 := cell_blk hx9 1; have u2 := cell_blk hx9 2
          have z0 := cell_blk hx79 0; have z1 := cell_blk hx79 1; have z2 := cell_blk hx79 2
          simp at u0 u1 u2 z0 z1 z2
          have HNE := fun V => run_neq_jmp d V
          have HW9 := hide hW9
          clear hb8 hb9 hx9 hs9 hW9 hb79 hx79 HX7 HW7 HGT hj hfit HB7
          unfold jV
          go_upto_region 19 with fail
          rw [HW9.out]
          go_wp2_with fail
          go_roundw
          case rel => exact ⟨q + 1, c2 + 1, by go_num, by go_num, by omega, hide (by have := hc2.out; omega), HB9⟩
          case measure => simp [intOf] <;> omega
        · have hqm : q = M := by omega
          subst hqm
          clear hlq
          have hnew : Hid (c2 = (v.order (k + 1)).length) := by
            show _ = _
            rw [SidE.order_succ, List.length_append, rowJ_len, HM.out, ← hcl.out]
            exact hc2.out
          go_wp2_with fail
          refine HC2.out.mono ?_; rintro e w7 ⟨rfl, rfl⟩
          go_wp2_with fail
          go_roundw
          case rel => exact ⟨k + 1, c2, by go_num, rfl, by omega, hnew, hbw⟩
          case measure => simp [intOf] <;> omega
    · have hkn : k = N := by omega
      subst hkn
      clear hlt
      have hcL : c = L := by rw [hcl.out]; exact HLL.out
      subst hcL
      have HLN := hide (slen_any wr (hide (hBr6.out.below hbw.out)) sg HSG.out)
      rw [HLL.out] at HLN
      have HAL := hide (alive_any S wr (hide (hAr.out.below hbw.out)))
      rw [HE3.out] at HAL
      have HC := hide (aclass_any (12 * c) wr (by omega))
      rw [show ((12 * c : Nat) : Int) = 12 * (c : Int) from by omega, HCC.out] at HC
      have hci : (c : Int) ≤ 200000 := by omega
      go_wp2_with fail
      refine HLN.out.mono ?_; rintro e w7 ⟨rfl, rfl⟩
      go_wp2_with fail
      refine HAL.out.mono ?_; rintro e w7 ⟨rfl, rfl⟩
      go_wp2_with fail
      refine HC.out.mono ?_; rintro e w7 ⟨rfl, rfl⟩
      go_wp2_with fail
      go_ret
      exact ⟨rfl, HB.out.trans ((HB6.out.trans (hbw.out.mono HB6.out.size)).mono HB.out.size)⟩
theorem SidePuts_o0 {H : Type} {enc : TypeId × Value → H} {w : World} : Opens enc Tryz.prog w 31 moD (moOk w) := mo_opens
theorem SidePuts_walk (s0 : MoA) (f n : Int) (w : World) (h : moOk w s0) (hf : (Lit.int .i64 f).wf = true) (hn : (Lit.int .u16 n).wf = true) (hP : ∃ ml, w.cell? ⟨0, 0, none⟩ = some (.int .i64 ml)) :
    Calls Tryz.prog 3 #[.agg (moD s0).toArray, .int .i64 f, .int .u16 n] w fun e w' => e = .returned (.bool true) ∧ Below w.heap.size w w' := by
  obtain ⟨ml, hml⟩ := hP
  have hb : 0 ≤ n ∧ n ≤ 65535 := by simp [Lit.wf, IntKind.min, IntKind.max, IntKind.signed, IntKind.bits] at hn; omega
  obtain ⟨k, rfl⟩ : ∃ k : Nat, n = (k : Int) := ⟨n.toNat, by omega⟩
  rw [← moL_cs]
  exact sideputs_any (moL s0) f k w ml (by omega) (mo_in h) (mo_re h) hml
end
end Go.Proofs.YtomppgohoplemaaGreat
