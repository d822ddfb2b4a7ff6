import Derived.Test.YtcfmbdkhefdgdaaGreatQBT
import Derived.Test.YtcfmbdkhefdgdaaGreatQBV
import Derived.Test.YtcfmbdkhefdgdaaGreatQBO
import Derived.Test.YtcfmbdkhefdgdaaGreatQBE
import Derived.Test.YtcfmbdkhefdgdaaGreatQAW
import Derived.Deep.DeepCutAuto
import Derived.Deep.CutBlock
set_option linter.unusedVariables false
namespace Go.Proofs.YtcfmbdkhefdgdaaGreat
open Go.RowKit
theorem rsig_elem : IsElem Tryz.prog 42 46 2 48 := IsElem.mk' Tryz.underlying42 (z := .agg #[.slice none 0 0, .slice none 0 0]) (by kernel_rfl) rfl (by omega)
theorem ebool_elem : IsElem Tryz.prog 43 4 1 1 := IsElem.mk' Tryz.underlying43 (z := .bool false) (by kernel_rfl) rfl (by omega)
theorem eu8_elem : IsElem Tryz.prog 44 5 1 1 := IsElem.mk' Tryz.underlying44 (z := .int .u8 0) (by kernel_rfl) rfl (by omega)
def tD (b : Bool) : List Value := [.bool b]
structure EvL where
 funcs : Sl SgL
 sigs : Sl SgL
 wide : Sl Bool
 gl : Sl UInt8
 mu : Sl Bool
 tb : Bool
 own : SgL
 loc : Sl UInt8
def EvL.cs (v : EvL) : List Value := [v.funcs.val, v.sigs.val, v.wide.val, v.gl.val, v.mu.val, .bool v.tb, v.own.p.val, v.own.r.val, v.loc.val]
structure EvIn (w : World) (v : EvL) : Prop where
 funcs : Row w 2 SgL.cs v.funcs
 func : ∀ x ∈ v.funcs.l, Row w 1 bD x.p ∧ Row w 1 bD x.r
 sigs : Row w 2 SgL.cs v.sigs
 sig : ∀ x ∈ v.sigs.l, Row w 1 bD x.p ∧ Row w 1 bD x.r
 wide : Row w 1 tD v.wide
 gl : Row w 1 bD v.gl
 mu : Row w 1 tD v.mu
 own : Row w 1 bD v.own.p ∧ Row w 1 bD v.own.r
 loc : Row w 1 bD v.loc
structure EvOf (m : MoL) (f : Nat) (y : FuL) (v : EvL) : Prop where
 funcs : v.funcs.l.length = m.imps.l.length + m.funcs.l.length
 func : ∀ i, i < m.imps.l.length + m.funcs.l.length → ∃ s, v.funcs.l[i]? = some s ∧ s ∈ m.sigs.l ∧ sigOf m.g i = s.g
 sigs : v.sigs.l = m.sigs.l
 wide : v.wide.l = m.mems.l.map (fun x => x.wide)
 gl : v.gl.l = m.gls.l.map (fun x => x.t)
 mu : v.mu.l = m.gls.l.map (fun x => x.mu)
 tb : v.tb = decide (0 ≤ m.table)
 own : v.own ∈ m.sigs.l ∧ sigOf m.g (m.imps.l.length + f) = v.own.g
 loc : v.loc.l = v.own.p.l ++ y.bd.loc.l
def EvP (m : MoL) (f : Nat) (y : FuL) (w : World) (e : Ending) (w' : World) : Prop :=
 ∃ v : EvL, e = .returned (.agg v.cs.toArray) ∧ Hid (EvIn w' v) ∧ Hid (EvOf m f y v) ∧ Hid (Below w.heap.size w w')
structure RowB {α : Type} (w : World) (lo hi size : Nat) (dec : α → List Value) (s : Sl α) : Prop where
 row : Row w size dec s
 bd : ∀ ad, s.at_ = some ad → 0 < s.l.length → lo ≤ ad.block ∧ ad.block < hi
theorem RowB.onlyE {α : Type} {w w' : World} {eg hi size fo : Nat} {dec : α → List Value} {s : Sl α} {S : List Nat} (h : RowB w (eg + 1) hi size dec s) (ho : OnlyE S eg fo w w') (hS : ∀ x ∈ S, x = eg ∨ hi ≤ x) : RowB w' (eg + 1) hi size dec s :=
 ⟨h.row.only ho.only (fun ad ha h0 hm => by have := h.bd ad ha h0; rcases hS _ hm with e | e <;> omega), h.bd⟩
theorem RowB.of {α : Type} {w : World} {lo hi size : Nat} {dec : α → List Value} {e : TypeId} {n c : Nat} {A : Option Addr} {l : List α} (h : w.ownsRow lo e size (.slice A n c) n (l.flatMap dec)) (hl : n = l.length) (hhi : w.heap.size ≤ hi) : RowB w lo hi size dec ⟨A, c, l⟩ := by
 have hf := RowF.of_own h hl
 exact ⟨hf.row, fun ad ha h0 => ⟨hf.ge ad ha h0, Nat.lt_of_lt_of_le (hf.row.lt ad ha h0) hhi⟩⟩
theorem RowB.up {α : Type} {w : World} {lo lo' hi hi' size : Nat} {dec : α → List Value} {s : Sl α} (h : RowB w lo hi size dec s) (h1 : lo' ≤ lo) (h2 : hi ≤ hi') : RowB w lo' hi' size dec s :=
 ⟨h.row, fun ad ha h0 => by have := h.bd ad ha h0; omega⟩
structure LowE (L eg fo : Nat) (w w' : World) : Prop where
 os : w'.os = w.os
 tape : w'.tape = w.tape
 output : w'.output = w.output
 size : w.heap.size ≤ w'.heap.size
 block : ∀ i, i < L → i ≠ eg → i < w.heap.size → w'.heap[i]? = w.heap[i]?
 cell : ∀ i, i ≠ fo → eg < w.heap.size → w'.cell? ⟨eg, i, none⟩ = w.cell? ⟨eg, i, none⟩
theorem LowE.of_below {L eg fo : Nat} {a b : World} (h : Below a.heap.size a b) : LowE L eg fo a b := ⟨h.os, h.tape, h.output, h.size, fun i _ _ hl => h.block i hl, fun i _ hl => h.cell hl⟩
theorem LowE.ext (L eg fo : Nat) : IsExt (LowE L eg fo) :=
 ⟨fun w => ⟨rfl, rfl, rfl, Nat.le_refl _, fun _ _ _ _ => rfl, fun _ _ _ => rfl⟩, fun {a b c} h k => ⟨k.os.trans h.os, k.tape.trans h.tape, k.output.trans h.output, Nat.le_trans h.size k.size, fun i hi hn hl => (k.block i hi hn (Nat.lt_of_lt_of_le hl h.size)).trans (h.block i hi hn hl), fun i hi hl => (k.cell i hi (Nat.lt_of_lt_of_le hl h.size)).trans (h.cell i hi hl)⟩, fun w => ⟨rfl, rfl, rfl, Nat.le_refl _, fun _ _ _ _ => rfl, fun _ _ _ => rfl⟩⟩
theorem LowE.grows {L eg fo : Nat} {w w' : World} {v v' : Value} (hg : Grows w w' v v') (hL : ∀ q, v.ownBlock = some q → L ≤ q ∧ q ≠ eg) : LowE L eg fo w w' :=
 ⟨hg.by_.os, hg.by_.tape, hg.by_.output, hg.by_.size, fun i hi _ hl => hg.only.block i hl (fun hm => by have := hL i (by simpa using hm); omega), fun i _ hl => World.cell?_of_block (hg.only.block eg hl (fun hm => (hL eg (by simpa using hm)).2 rfl))⟩
theorem LowE.set {L eg fo : Nat} (w : World) (u : Value) : LowE L eg fo w (w.setCell ⟨eg, fo, none⟩ u) :=
 ⟨rfl, rfl, rfl, by simp [World.setCell], fun i _ hn _ => Below.heap_setCell w _ u i (fun e => hn (by rw [e])), fun i hi _ => World.cell?_setCell_other w _ _ u (fun e => by injection e; omega)⟩
theorem Row.lowE {α : Type} {w w' : World} {L eg fo size : Nat} {dec : α → List Value} {s : Sl α} (h : Row w size dec s) (ho : LowE L eg fo w w') (hb : ∀ ad, s.at_ = some ad → 0 < s.l.length → ad.block < L ∧ ad.block ≠ eg) : Row w' size dec s := by
 refine ⟨⟨h.r.1, fun h0 => ?_⟩, h.c, h.m⟩
 obtain ⟨ad, ha, hlt, hc⟩ := h.r.2 h0
 obtain ⟨b1, b2⟩ := hb ad ha h0
 refine ⟨ad, ha, Nat.lt_of_lt_of_le hlt ho.size, fun j u hu => ?_⟩
 have hc2 : w'.cell? (ad.add j) = w.cell? (ad.add j) := World.cell?_of_block (by rw [block_of_add]; exact ho.block _ b1 b2 hlt)
 rw [hc2]
 exact hc j u hu
theorem fit_num {m : MoL} (hu : (unfitP m.g).2 = 0) {f : Nat} (hf : f < m.imps.l.length + m.funcs.l.length) : ∃ (n : Nat) (s : SgL), sigN m.g f = (n : Int) ∧ m.sigs.l[n]? = some s ∧ sigOf m.g f = s.g := by
 have hall : m.g.all = m.imps.l.length + m.funcs.l.length := by simp [Mo.all, MoL.g]
 obtain ⟨n1, n2⟩ := inB_iff.1 ((fit_of hu).num (f := f) (by omega))
 have hl : m.g.sigs.length = m.sigs.l.length := by simp [MoL.g]
 rw [hl] at n2
 obtain ⟨n, hn⟩ : ∃ n : Nat, sigN m.g f = (n : Int) := ⟨(sigN m.g f).toNat, by omega⟩
 rw [hn] at n2
 have hlt : n < m.sigs.l.length := by omega
 refine ⟨n, m.sigs.l[n], hn, List.getElem?_eq_getElem hlt, ?_⟩
 unfold sigOf
 rw [hn, Int.toNat_natCast]
 exact getD_some (by simp [MoL.g, hlt])
def noSgL : SgL := ⟨⟨none, 0, []⟩, ⟨none, 0, []⟩⟩
def sgAt (m : MoL) (i : Nat) : SgL := m.sigs.l.getD (sigN m.g i).toNat noSgL
def fnRow (m : MoL) (k : Nat) : List SgL := (List.range k).map (sgAt m)
theorem fnRow_succ (m : MoL) (k : Nat) : (fnRow m (k + 1)).flatMap SgL.cs = (fnRow m k).flatMap SgL.cs ++ SgL.cs (sgAt m k) := by
 unfold fnRow
 rw [List.range_succ, List.map_append, List.flatMap_append]
 simp
theorem fnRow_len (m : MoL) (k : Nat) : (fnRow m k).length = k := by simp [fnRow]
theorem flat_take {α : Type} {l : List α} {k : Nat} {x : α} (d : α → List Value) (h : l[k]? = some x) : (l.take (k + 1)).flatMap d = (l.take k).flatMap d ++ d x := by
 rw [List.take_add_one, h, List.flatMap_append]
 simp
set_option maxRecDepth 100000 in
set_option maxHeartbeats 12800000 in
theorem lenv_any (m : MoL) (f : Nat) (y : FuL) (w : World) (h : Hid (MoIn w m)) (hs : Hid (MoSm m)) (hu : Hid ((unfitP m.g).2 = 0)) (hy : m.funcs.l[f]? = some y) :
  Calls Tryz.prog 13 #[.agg m.cs.toArray, .int .i64 (f : Int)] w (EvP m f y w) := by
 obtain ⟨W1, hW1, hb1, hx1, hs1⟩ := box_new w m.cs.toArray 31
 obtain ⟨xg, hxg⟩ : ∃ xg, w.heap.size = xg := ⟨_, rfl⟩
 rw [hxg] at hx1 hs1
 obtain ⟨W2, hW2, hb2, hx2, hs2⟩ := box_new W1 #[.slice none 0 0, .slice none 0 0, .slice none 0 0, .slice none 0 0, .slice none 0 0, .bool false, .slice none 0 0, .slice none 0 0, .slice none 0 0] 48
 rw [hs1] at hx2 hs2
 obtain ⟨W, hW, hb3, hx3, hs3⟩ := box_new W2 #[.slice none 0 0, .slice none 0 0, .slice none 0 0, .slice none 0 0, .slice none 0 0, .bool (decide (0 ≤ m.table)), .slice none 0 0, .slice none 0 0, .slice none 0 0] 48
 rw [hs2] at hx3 hs3
 obtain ⟨eg, heg⟩ : ∃ eg, xg + 1 + 1 = eg := ⟨_, rfl⟩
 rw [heg] at hx3 hs3
 have c3 : W2.cell? ⟨xg, 3, none⟩ = some (.int .i64 m.table) := cell_blk ((hb2.block xg (by omega)).trans hx1) 3
 have HW1 := hide hW1; have HW2 := hide hW2; have HW := hide hW; have HXG := hide hxg; have HS2 := hide hs2; have HEG := hide heg
 have hbW : Below w.heap.size w W := (hb1.trans (hb2.mono hb1.size)).trans (hb3.mono (by omega))
 have hx1W := (hb3.block xg (by omega)).trans ((hb2.block xg (by omega)).trans hx1)
 have hx2W := (hb3.block (xg + 1) (by omega)).trans hx2
 have HCL : Hid (∀ V, Below eg W V → V.cell? ⟨xg, 0, none⟩ = some (.slice m.sigs.at_ m.sigs.l.length m.sigs.cap) ∧ V.cell? ⟨xg, 1, none⟩ = some (.slice m.imps.at_ m.imps.l.length m.imps.cap) ∧ V.cell? ⟨xg, 2, none⟩ = some (.slice m.funcs.at_ m.funcs.l.length m.funcs.cap) ∧ V.cell? ⟨xg, 4, none⟩ = some (.slice m.mems.at_ m.mems.l.length m.mems.cap) ∧ V.cell? ⟨xg, 5, none⟩ = some (.slice m.gls.at_ m.gls.l.length m.gls.cap) ∧ MoIn V m ∧ Below w.heap.size w V) := fun V hV => by
  have hk := (hV.block xg (by omega)).trans hx1W
  have hwV : Below w.heap.size w V := hbW.trans (hV.mono (by omega))
  exact ⟨cell_blk hk 0, cell_blk hk 1, cell_blk hk 2, cell_blk hk 4, cell_blk hk 5, h.out.below hwV, hwV⟩
 have HX3 := hide hx3; have HX2 := hide hx2W
 have hegW : eg < W.heap.size := blk_lt hx3
 have z1 := hs.out.sigs; have z2 := hs.out.imps; have z3 := hs.out.funcs; have z4 := hs.out.mems; have z5 := hs.out.gls
 clear hW1 hb1 hx1 hs1 hW2 hb2 hx2 hs2 hW hb3 hx3 hs3 hxg heg hbW hx1W hx2W
 unfold MoL.cs Sl.val at HW1 ⊢
 go_enter Tryz.func13, Tryz.ntmps13
 go_upto_region 1 with fail
 rw [HW1.out]
 try rw [HXG.out]
 rw [HW2.out]
 have e2 := HS2.out
 rw [HEG.out] at e2
 go_upto_region 2 with fail
 rw [HW.out]
 obtain ⟨tb, htb⟩ : ∃ tb, decide (0 ≤ m.table) = tb := ⟨_, rfl⟩
 rw [htb] at HX3
 have HTB := hide htb
 clear htb c3 e2
 go_upto_block 0 with fail
 go_cut [] (fun wx => ∃ (A1 : Option Addr) (c1 : Nat), Hid (wx.heap[eg]? = some (.cells #[.slice none 0 0, .slice A1 m.sigs.l.length c1, .slice none 0 0, .slice none 0 0, .slice none 0 0, .bool tb, .slice none 0 0, .slice none 0 0, .slice none 0 0] 48 (0, 0))) ∧ Hid (wx.ownsRow (eg + 1) 46 2 (.slice A1 m.sigs.l.length c1) m.sigs.l.length (m.sigs.l.flatMap SgL.cs)) ∧ Hid (Below eg W wx))
 case first =>
  as_aux_lemma =>
   go_wp2_with fail
   go_loopw [6] (fun i w1 => ∃ (k : Nat) (sv : Value), i = .int .i64 k ∧ k ≤ m.sigs.l.length ∧ Hid (w1.heap[eg]? = some (.cells #[.slice none 0 0, sv, .slice none 0 0, .slice none 0 0, .slice none 0 0, .bool tb, .slice none 0 0, .slice none 0 0, .slice none 0 0] 48 (0, 0))) ∧ Hid (w1.ownsRow (eg + 1) 46 2 sv k ((m.sigs.l.take k).flatMap SgL.cs)) ∧ Hid (Below eg W w1)) (fun i _ => m.sigs.l.length - (intOf i).toNat)
   case atStart => exact ⟨0, _, rfl, by omega, HX3, own_nil _ _ _ _, Below.refl _ _⟩
   case round =>
   obtain ⟨k, sv, rfl, hk, hblk, ho, hbw⟩ := hrel
   obtain ⟨c0, c1, c2, c4, c5, hin, _⟩ := HCL.out _ hbw.out
   by_cases hlt : k < m.sigs.l.length
   ·obtain ⟨z, hz⟩ : ∃ z, m.sigs.l[k]? = some z := ⟨_, List.getElem?_eq_getElem hlt⟩
    obtain ⟨ad, ha, _, _, _⟩ := hin.sigs.at_ (fun _ => rfl) hz
    obtain ⟨L, hL⟩ : ∃ L, wr.heap.size = L := ⟨_, rfl⟩
    have hLs : L ≤ wr.heap.size := by omega
    have hLs2 : wr.heap.size ≤ L := by omega
    have hegL : eg < L := by rw [← hL]; exact blk_lt hblk.out
    have hbL : (eg + 1) ≤ L := by omega
    have HSM : Hid (∀ x ∈ (eg :: (sv : Value).ownBlock.toList), x < L ∧ (x = eg ∨ (eg + 1) ≤ x)) := fun x hx => by
     rcases List.mem_cons.1 hx with e | e
     ·subst e; exact ⟨hegL, .inl rfl⟩
     ·have e2 := Option.mem_toList.1 e; have := own_ge ho.out x e2; have := own_lt ho.out x e2; exact ⟨by omega, .inr (by omega)⟩
    have HX : Hid (∀ V, OnlyE (eg :: (sv : Value).ownBlock.toList) eg 1 wr V → V.cell? ⟨xg, 0, none⟩ = some (.slice (some ad) m.sigs.l.length m.sigs.cap) ∧ V.cell? (ad.add (k * 2)) = some (.slice z.p.at_ z.p.l.length z.p.cap) ∧ V.cell? ⟨(ad.add (k * 2)).block, (ad.add (k * 2)).off + 1, none⟩ = some (.slice z.r.at_ z.r.l.length z.r.cap)) := fun V hV => by
     have hbV : Below eg wr V := hV.only.below (by omega) (fun x hx => by have := HSM.out x hx; omega)
     obtain ⟨k0V, k1V, k2V, k4V, k5V, hinV, hwV⟩ := HCL.out _ (hbw.out.trans hbV)
     rw [ha] at k0V
     obtain ⟨ad9, ha9, _, q09, qj9⟩ := hinV.sigs.at_ (fun _ => rfl) hz
     have e9 : ad9 = ad := by rw [ha] at ha9; injection ha9 with e; exact e.symm
     subst e9
     exact ⟨k0V, q09 _ rfl (by omega), qj9 1 (by omega) (by omega) _ rfl⟩
    have HST := hide (And.intro hblk.out ho.out)
    have hroom : Room k 1 48 := room_of (by omega) (by omega)
    have hk3 : (k : Int) < (m.sigs.l.length : Int) := by omega
    rw [ha] at c0
    have HZ := hide hz; have HAD := hide ha
    clear hz ha hin hL
    go_upto_region 5 with fail
    refine wp_region_factsD grew_ext (OnlyE.ext (eg :: (sv : Value).ownBlock.toList) eg 1) (fun _ _ h => OnlyE.of_below h) [1, 16, 18] 18 (factsOf [fun yy _ => yy = .pointer (some ⟨eg, 1, none⟩),
     fun yy W => yy = sv ∧ (W.heap[eg]? = some (.cells #[.slice none 0 0, sv, .slice none 0 0, .slice none 0 0, .slice none 0 0, .bool tb, .slice none 0 0, .slice none 0 0, .slice none 0 0] 48 (0, 0)) ∧ W.ownsRow (eg + 1) 46 2 sv (k) ((m.sigs.l.take k).flatMap SgL.cs)) ∧ L ≤ W.heap.size,
     fun yy _ => yy = .pointer (some ⟨xg, 0, none⟩),
     fun yy _ => yy = .slice (some ad) m.sigs.l.length m.sigs.cap,
     fun yy _ => yy = .int .i64 (k : Int),
     fun yy _ => yy = .pointer (some (ad.add (k * 2))),
     fun yy _ => yy = .pointer (some (ad.add (k * 2))),
     fun yy _ => yy = .slice z.p.at_ z.p.l.length z.p.cap,
     fun yy _ => yy = .pointer (some ⟨xg, 0, none⟩),
     fun yy _ => yy = .slice (some ad) m.sigs.l.length m.sigs.cap,
     fun yy _ => yy = .int .i64 (k : Int),
     fun yy _ => yy = .pointer (some (ad.add (k * 2))),
     fun yy _ => yy = .pointer (some ⟨(ad.add (k * 2)).block, (ad.add (k * 2)).off + 1, none⟩),
     fun yy _ => yy = .slice z.r.at_ z.r.l.length z.r.cap,
     fun yy _ => yy = .agg #[.slice z.p.at_ z.p.l.length z.p.cap, .slice z.r.at_ z.r.l.length z.r.cap],
     fun yy W => ∃ q : Nat, yy = .slice (some ⟨q, 0, none⟩) 1 1 ∧ L ≤ q ∧ W.heap[q]? = some (.cells #[.slice z.p.at_ z.p.l.length z.p.cap, .slice z.r.at_ z.r.l.length z.r.cap] 46 (0, 0)),
     fun yy W => ∃ W1 : World, (W1.heap[eg]? = some (.cells #[.slice none 0 0, sv, .slice none 0 0, .slice none 0 0, .slice none 0 0, .bool tb, .slice none 0 0, .slice none 0 0, .slice none 0 0] 48 (0, 0)) ∧ W1.ownsRow (eg + 1) 46 2 sv (k) ((m.sigs.l.take k).flatMap SgL.cs)) ∧ Grows W1 W sv yy ∧ W.ownsRow (eg + 1) 46 2 yy (k + 1) ((m.sigs.l.take k).flatMap SgL.cs ++ [.slice z.p.at_ z.p.l.length z.p.cap, .slice z.r.at_ z.r.l.length z.r.cap]) ∧ L ≤ W1.heap.size,
     fun yy _ => yy = .pointer (some ⟨eg, 1, none⟩),
     fun _ W => ∃ v9 : Value, (W.heap[eg]? = some (.cells #[.slice none 0 0, v9, .slice none 0 0, .slice none 0 0, .slice none 0 0, .bool tb, .slice none 0 0, .slice none 0 0, .slice none 0 0] 48 (0, 0)) ∧ W.ownsRow (eg + 1) 46 2 v9 (k + 1) ((m.sigs.l.take k).flatMap SgL.cs ++ [.slice z.p.at_ z.p.l.length z.p.cap, .slice z.r.at_ z.r.l.length z.r.cap])) ∧ LiesL L sv v9]) (by kernel_rfl) (by kernel_rfl) (by kernel_rfl) (by decide) rfl (by decide) (by kernel_rfl) (by intro i v w hd hF; rcases i with _ | _ | _ | _ | _ | _ | _ | _ | _ | _ | _ | _ | _ | _ | _ | _ | _ | _ | _ | i <;> first | exact hF | exact absurd hd (by simp)) ?_ ?_
    ·refine ⟨?_, ?_, ?_, ?_, ?_, ?_, ?_, ?_, ?_, ?_, ?_, ?_, ?_, ?_, ?_, ?_, ?_, ?_, ?_, trivial⟩
     ·refine ObD.plain (by decide) rfl fun ρ W hk => ?_
      have o5 : ρ (.tmp 5) = .pointer (some ⟨eg, 0, none⟩) := hk.old 5 (by decide)
      exact OpOut.fieldAddr (x := .tmp 5) rfl o5 (by go_simp) ⟨Below.refl _ _, rfl⟩
     ·refine ObD.first rfl rfl fun ρ W hk hk0 => ?_
      have h0 := (hk.fact 0 22 (by decide) rfl).pure
      have hb9 := (hk0.below.block eg (blk_lt HST.out.1)).trans HST.out.1
      have hw9 := own_only3 (S := []) HST.out.2 (Only.of_below hk0.below) (by simp)
      have y0 := cell_blk hb9 1
      obtain ⟨A9, c9, hv9, _, _⟩ := own_form hw9
      simp at y0
      rw [hv9] at y0
      have HB9 := hide hb9; have HW9 := hide hw9
      have hL9 : L ≤ W.heap.size := by have := hk0.below.size; omega
      clear hb9 hw9
      exact OpOut.load (x := .tmp 22) rfl h0 (by go_simp) ⟨(OnlyE.ext _ _ _).refl _, hv9.symm, ⟨HB9.out, HW9.out⟩, hL9⟩
     ·refine ObD.plain (by decide) rfl fun ρ W hk => ?_
      have o2 : ρ (.tmp 2) = .pointer (some ⟨xg, 0, none⟩) := hk.old 2 (by decide)
      exact OpOut.fieldAddr (x := .tmp 2) rfl o2 (by go_simp) ⟨Below.refl _ _, rfl⟩
     ·refine ObD.plain (by decide) rfl fun ρ W hk => ?_
      have h2 := (hk.fact 2 24 (by decide) rfl).pure
      obtain ⟨e0, e1, e2⟩ := HX.out W hk.below
      exact OpOut.load (x := .tmp 24) rfl h2 (by go_simp) ⟨Below.refl _ _, rfl⟩
     ·refine ObD.plain (by decide) rfl fun ρ W hk => ?_
      have o6 : ρ (.tmp 6) = .int .i64 (k : Int) := hk.old 6 (by decide)
      exact OpOut.move (.tmp 6) rfl ⟨Below.refl _ _, o6⟩
     ·refine ObD.plain (by decide) rfl fun ρ W hk => ?_
      have h3 := (hk.fact 3 25 (by decide) rfl).pure
      have h4 := (hk.fact 4 26 (by decide) rfl).pure
      exact OpOut.indexAddrT (x := .tmp 25) (y := .tmp 26) rfl h3 h4 (by go_simp) ⟨Below.refl _ _, rfl⟩
     ·refine ObD.plain (by decide) rfl fun ρ W hk => ?_
      have h5 := (hk.fact 5 27 (by decide) rfl).pure
      exact OpOut.fieldAddr (x := .tmp 27) rfl h5 (by go_simp) ⟨Below.refl _ _, rfl⟩
     ·refine ObD.plain (by decide) rfl fun ρ W hk => ?_
      have h6 := (hk.fact 6 28 (by decide) rfl).pure
      obtain ⟨e0, e1, e2⟩ := HX.out W hk.below
      exact OpOut.load (x := .tmp 28) rfl h6 (by go_simp) ⟨Below.refl _ _, rfl⟩
     ·refine ObD.plain (by decide) rfl fun ρ W hk => ?_
      have o2 : ρ (.tmp 2) = .pointer (some ⟨xg, 0, none⟩) := hk.old 2 (by decide)
      exact OpOut.fieldAddr (x := .tmp 2) rfl o2 (by go_simp) ⟨Below.refl _ _, rfl⟩
     ·refine ObD.plain (by decide) rfl fun ρ W hk => ?_
      have h8 := (hk.fact 8 30 (by decide) rfl).pure
      obtain ⟨e0, e1, e2⟩ := HX.out W hk.below
      exact OpOut.load (x := .tmp 30) rfl h8 (by go_simp) ⟨Below.refl _ _, rfl⟩
     ·refine ObD.plain (by decide) rfl fun ρ W hk => ?_
      have o6 : ρ (.tmp 6) = .int .i64 (k : Int) := hk.old 6 (by decide)
      exact OpOut.move (.tmp 6) rfl ⟨Below.refl _ _, o6⟩
     ·refine ObD.plain (by decide) rfl fun ρ W hk => ?_
      have h9 := (hk.fact 9 31 (by decide) rfl).pure
      have h10 := (hk.fact 10 32 (by decide) rfl).pure
      exact OpOut.indexAddrT (x := .tmp 31) (y := .tmp 32) rfl h9 h10 (by go_simp) ⟨Below.refl _ _, rfl⟩
     ·refine ObD.plain (by decide) rfl fun ρ W hk => ?_
      have h11 := (hk.fact 11 33 (by decide) rfl).pure
      exact OpOut.fieldAddr (x := .tmp 33) rfl h11 (by go_simp) ⟨Below.refl _ _, rfl⟩
     ·refine ObD.plain (by decide) rfl fun ρ W hk => ?_
      have h12 := (hk.fact 12 34 (by decide) rfl).pure
      obtain ⟨e0, e1, e2⟩ := HX.out W hk.below
      exact OpOut.load (x := .tmp 34) rfl h12 (by go_simp) ⟨Below.refl _ _, rfl⟩
     ·refine ObD.plain (by decide) rfl fun ρ W hk => ?_
      have h7 := (hk.fact 7 29 (by decide) rfl).pure
      have h13 := (hk.fact 13 35 (by decide) rfl).pure
      exact OpOut.build (us := #[(0, .slice z.p.at_ z.p.l.length z.p.cap), (1, .slice z.r.at_ z.r.l.length z.r.cap)]) rfl (by simp [h7, h13]) (by go_simp) ⟨Below.refl _ _, rfl⟩
     ·refine ObD.plain (by decide) rfl fun ρ W hk => ?_
      have h14 := (hk.fact 14 36 (by decide) rfl).pure
      have hLW : L ≤ W.heap.size := by have := hk.below.only.size; omega
      have hbA : Below W.heap.size W (W.alloc (.cells #[.slice z.p.at_ z.p.l.length z.p.cap, .slice z.r.at_ z.r.l.length z.r.cap] 46)) := (Below.refl _ _).alloc (Nat.le_refl _) _
      exact OpOut.buildSlice (us := #[(0, .agg #[.slice z.p.at_ z.p.l.length z.p.cap, .slice z.r.at_ z.r.l.length z.r.cap])]) rfl (by simp [h14]) (by go_simp) ⟨hbA, W.heap.size, rfl, hLW, heap_alloc_new W _⟩
     ·refine ObD.next 0 1 23 rfl rfl rfl rfl fun ρ W hk hw => ?_
      obtain ⟨w6, hw6, e6, hT6, hL6⟩ := hw
      obtain ⟨w7, hw7, q, h7, hq7, hb7⟩ := hk.fact 15 37 (by decide) rfl
      have hTb := (hw6.block eg (blk_lt hT6.1)).trans hT6.1
      have hTo := own_only3 (S := []) hT6.2 (Only.of_below hw6) (by simp)
      have hLW : L ≤ W.heap.size := Nat.le_trans hL6 hw6.size
      have hqW := (hw7.only.block q (blk_lt hb7) (fun hm => by have := HSM.out q hm; omega)).trans hb7
      obtain ⟨v9, w9, hrun, ho9, hg9⟩ := run_append_any (P := Tryz.prog) (w := W) (eg + 1) (ty := 42) rsig_elem sv (k) ((m.sigs.l.take k).flatMap SgL.cs) hTo W.heap.size (some ⟨q, 0, none⟩) 1 1 [.slice z.p.at_ z.p.l.length z.p.cap, .slice z.r.at_ z.r.l.length z.r.cap] (reads_one hqW rfl) (by simp [Value.oneCell']) hroom (by omega)
      exact OpOut.append rfl e6 h7 hrun ⟨OnlyE.grows hg9 (fun q hq => List.mem_cons_of_mem _ (Option.mem_toList.2 hq)) (fun q hq => by have := own_ge hTo q hq; omega), W, ⟨hTb, hTo⟩, hg9, ho9, hLW⟩
     ·refine ObD.plain (by decide) rfl fun ρ W hk => ?_
      have o5 : ρ (.tmp 5) = .pointer (some ⟨eg, 0, none⟩) := hk.old 5 (by decide)
      exact OpOut.fieldAddr (x := .tmp 5) rfl o5 (by go_simp) ⟨Below.refl _ _, rfl⟩
     ·refine ObD.next 1 16 38 rfl rfl rfl rfl fun ρ W hk hw => ?_
      obtain ⟨w6, hw6, W1, hT1, hg1, ho1, hL1⟩ := hw
      have h17 := (hk.fact 17 39 (by decide) rfl).pure
      obtain ⟨yy, hyy⟩ : ∃ yy, ρ (.tmp 38) = yy := ⟨_, rfl⟩
      rw [hyy] at hg1 ho1
      have hg2 := hg1.trans (Grows.of_below hw6)
      have ho2 := own_only3 (S := []) ho1 (Only.of_below hw6) (by simp)
      have hblk9 := (hg2.only.block eg (blk_lt hT1.1) (fun hm => by have := own_ge hT1.2 eg (by simpa using hm); omega)).trans hT1.1
      have y0 := cell_blk hblk9 1
      have f0 := frozen_blk hblk9 1
      simp at y0
      obtain ⟨A9, c9, hv9, _, _⟩ := own_form ho2
      subst hv9
      obtain ⟨A8, c8, hv8, _, _⟩ := own_form hT1.2
      rw [hv8] at y0
      have hst9 := setCell_blk hblk9 1 (.slice A9 (k + 1) c9)
      have hO9 : OnlyE (eg :: (sv : Value).ownBlock.toList) eg 1 W (W.setCell ⟨eg, 1, none⟩ (.slice A9 (k + 1) c9)) := OnlyE.set (by simp) W _
      have hl9 : LiesL L sv (.slice A9 (k + 1) c9) := by rcases hg2.lies with e | ⟨g, e, hge⟩; exact .inl e; exact .inr ⟨g, e, Nat.le_trans hL1 hge⟩
      have ho3 := own_only3 (S := [eg]) ho2 (Only.setCell W (p := ⟨eg, 1, none⟩) (by simp) (.slice A9 (k + 1) c9)) (fun q hq hm => by have := own_ge ho2 q hq; simp at hm; omega)
      exact OpOut.storeT (x := .tmp 39) (y := .tmp 38) (W' := W.setCell ⟨eg, 1, none⟩ (.slice A9 (k + 1) c9)) rfl h17 hyy (by clear hblk9 hg1 hg2 ho1 ho2 hv8 hst9 hO9 hl9 ho3 hT1; go_simp) ⟨hO9, _, ⟨by simpa using hst9, ho3⟩, hl9⟩
    ·intro vs W2 hb2 hf hl9
     obtain ⟨w6, hw6, v9, hT6, hli6⟩ := hl9
     have HBN := hide ((hw6.block eg (blk_lt hT6.1)).trans hT6.1); have HON := hide (own_only3 (S := []) hT6.2 (Only.of_below hw6) (by simp)); have HLN := hide hli6; have HRN := hide hb2
     clear hf hw6 hT6 hb2 hli6
     simp only [fillL]
     generalize vs 0 = y0, vs 1 = y1, vs 2 = y2, vs 3 = y3, vs 4 = y4, vs 5 = y5, vs 6 = y6, vs 7 = y7, vs 8 = y8, vs 9 = y9, vs 10 = y10, vs 11 = y11, vs 12 = y12, vs 13 = y13, vs 14 = y14, vs 15 = y15, vs 16 = y16, vs 17 = y17, vs 18 = y18
     go_frame
     have hbN : Hid (Below eg W W2) := hbw.out.trans (HRN.out.only.below (by omega) (fun x hx => by have := HSM.out x hx; omega))
     clear HX c0 c1 c2 c4 c5
     go_wp2_with fail
     go_roundw
     case rel => exact ⟨k + 1, v9, by go_num, by omega, HBN, (by rw [flat_take SgL.cs HZ.out]; exact HON), hbN⟩
     case measure => simp [intOf] <;> omega
   ·have hkn : k = m.sigs.l.length := by omega
    have hlt3 : (m.sigs.l.length : Int) ≤ (k : Int) := by omega
    have HO9 := ho
    rw [hkn, List.take_length] at HO9
    obtain ⟨A1, q1, hsv, _, _⟩ := own_form HO9.out
    subst hsv
    clear hlt ho
    go_wp2_with fail
    go_meet
    exact ⟨A1, q1, hblk, HO9, hbw⟩
 case rest =>
 obtain ⟨A1, q1, HBK1, HOW1, HBW1⟩ := hcut
 obtain ⟨L1, hL1⟩ : ∃ L1, wc.heap.size = L1 := ⟨_, rfl⟩
 have hegL1 : eg < L1 := by rw [← hL1]; exact blk_lt HBK1.out
 have HR1 : Hid (RowB wc (eg + 1) L1 2 SgL.cs ⟨A1, q1, m.sigs.l⟩) := RowB.of HOW1.out rfl (by omega)
 have HL1 := hide hL1
 clear hL1 HOW1
 go_upto_block 2 with fail
 go_cut [] (fun wx => ∃ (A2 : Option Addr) (c2 : Nat), Hid (wx.heap[eg]? = some (.cells #[.slice A2 m.imps.l.length c2, .slice A1 m.sigs.l.length q1, .slice none 0 0, .slice none 0 0, .slice none 0 0, .bool tb, .slice none 0 0, .slice none 0 0, .slice none 0 0] 48 (0, 0))) ∧ Hid (wx.ownsRow L1 46 2 (.slice A2 m.imps.l.length c2) m.imps.l.length ((fnRow m m.imps.l.length).flatMap SgL.cs)) ∧ Hid (RowB wx (eg + 1) L1 2 SgL.cs ⟨A1, q1, m.sigs.l⟩) ∧ Hid (Below eg W wx) ∧ L1 ≤ wx.heap.size)
 case first =>
  as_aux_lemma =>
   go_wp2_with fail
   go_loopw [7] (fun i w1 => ∃ (k : Nat) (fv : Value), i = .int .i64 k ∧ k ≤ m.imps.l.length ∧ Hid (w1.heap[eg]? = some (.cells #[fv, .slice A1 m.sigs.l.length q1, .slice none 0 0, .slice none 0 0, .slice none 0 0, .bool tb, .slice none 0 0, .slice none 0 0, .slice none 0 0] 48 (0, 0))) ∧ Hid (w1.ownsRow L1 46 2 fv k ((fnRow m k).flatMap SgL.cs)) ∧ Hid (RowB w1 (eg + 1) L1 2 SgL.cs ⟨A1, q1, m.sigs.l⟩) ∧ Hid (Below eg W w1) ∧ L1 ≤ w1.heap.size) (fun i _ => m.imps.l.length - (intOf i).toNat)
   case atStart => exact ⟨0, _, rfl, by omega, HBK1, own_nil _ _ _ _, HR1, HBW1, by have := HL1.out; omega⟩
   case round =>
   obtain ⟨k, fv, rfl, hk, hblk, ho, hr, hbw, hLw⟩ := hrel
   obtain ⟨c0, c1, c2, c4, c5, hin, _⟩ := HCL.out _ hbw.out
   by_cases hlt : k < m.imps.l.length
   ·obtain ⟨z, hz⟩ : ∃ z, m.imps.l[k]? = some z := ⟨_, List.getElem?_eq_getElem hlt⟩
    obtain ⟨ad, ha, _, _, _⟩ := hin.imps.at_ (fun _ => rfl) hz
    obtain ⟨n, s, hn, hsn, _⟩ := fit_num hu.out (f := k) (by omega)
    have hzs : z.sig = (n : Int) := by
     rw [← hn]; unfold sigN; rw [show m.g.imps = m.imps.l from rfl, if_pos hlt, getD_some hz]
    have hsg : sgAt m k = s := by unfold sgAt; rw [hn, Int.toNat_natCast]; exact getD_some hsn
    obtain ⟨asg, has, _, _, _⟩ := hr.out.row.at_ (fun _ => rfl) hsn
    have has1 : A1 = some asg := has
    have hn3 : (n : Int) < (m.sigs.l.length : Int) := by have := lt_some hsn; omega
    obtain ⟨L, hL⟩ : ∃ L, wr.heap.size = L := ⟨_, rfl⟩
    have hLs : L ≤ wr.heap.size := by omega
    have hLs2 : wr.heap.size ≤ L := by omega
    have hegL : eg < L := by rw [← hL]; exact blk_lt hblk.out
    have hbL : L1 ≤ L := by omega
    have HSM : Hid (∀ x ∈ (eg :: (fv : Value).ownBlock.toList), x < L ∧ (x = eg ∨ L1 ≤ x)) := fun x hx => by
     rcases List.mem_cons.1 hx with e | e
     ·subst e; exact ⟨hegL, .inl rfl⟩
     ·have e2 := Option.mem_toList.1 e; have := own_ge ho.out x e2; have := own_lt ho.out x e2; exact ⟨by omega, .inr (by omega)⟩
    have HX : Hid (∀ V, OnlyE (eg :: (fv : Value).ownBlock.toList) eg 0 wr V → V.cell? ⟨xg, 1, none⟩ = some (.slice (some ad) m.imps.l.length m.imps.cap) ∧ V.cell? ⟨(ad.add (k * 3)).block, (ad.add (k * 3)).off + 2, none⟩ = some (.int .i64 (n : Int)) ∧ V.cell? ⟨eg, 1, none⟩ = some (.slice (some asg) m.sigs.l.length q1) ∧ V.cell? (asg.add (n * 2)) = some (.slice s.p.at_ s.p.l.length s.p.cap) ∧ V.cell? ⟨(asg.add (n * 2)).block, (asg.add (n * 2)).off + 1, none⟩ = some (.slice s.r.at_ s.r.l.length s.r.cap)) := fun V hV => by
     have hbV : Below eg wr V := hV.only.below (by omega) (fun x hx => by have := HSM.out x hx; omega)
     obtain ⟨k0V, k1V, k2V, k4V, k5V, hinV, hwV⟩ := HCL.out _ (hbw.out.trans hbV)
     rw [ha] at k1V
     obtain ⟨ad9, ha9, _, q09, qj9⟩ := hinV.imps.at_ (fun _ => rfl) hz
     have e9 : ad9 = ad := by rw [ha] at ha9; injection ha9 with e; exact e.symm
     subst e9
     have he1 := (hV.cell 1 (by omega) (by omega)).trans (cell_blk hblk.out 1)
     simp at he1
     rw [has1] at he1
     have hrV := hr.out.onlyE hV (fun x hx => (HSM.out x hx).2)
     obtain ⟨as9, has9, _, p09, pj9⟩ := hrV.row.at_ (fun _ => rfl) hsn
     have e8 : as9 = asg := by have h8 : A1 = some as9 := has9; rw [has1] at h8; injection h8 with e; exact e.symm
     subst e8
     exact ⟨k1V, by rw [← hzs]; exact qj9 2 (by omega) (by omega) _ rfl, he1, p09 _ rfl (by omega), pj9 1 (by omega) (by omega) _ rfl⟩
    have HST := hide (And.intro hblk.out ho.out)
    have hroom : Room k 1 48 := room_of (by omega) (by omega)
    have hk3 : (k : Int) < (m.imps.l.length : Int) := by omega
    rw [ha] at c1
    have HSG := hide hsg
    clear hz ha hin hL hzs hn hsn has has1 hsg
    go_upto_region 9 with fail
    refine wp_region_factsD grew_ext (OnlyE.ext (eg :: (fv : Value).ownBlock.toList) eg 0) (fun _ _ h => OnlyE.of_below h) [1, 13, 15] 15 (factsOf [fun yy _ => yy = .pointer (some ⟨eg, 0, none⟩),
     fun yy W => yy = fv ∧ (W.heap[eg]? = some (.cells #[fv, .slice A1 m.sigs.l.length q1, .slice none 0 0, .slice none 0 0, .slice none 0 0, .bool tb, .slice none 0 0, .slice none 0 0, .slice none 0 0] 48 (0, 0)) ∧ W.ownsRow (L1) 46 2 fv (k) ((fnRow m k).flatMap SgL.cs)) ∧ L ≤ W.heap.size,
     fun yy _ => yy = .pointer (some ⟨eg, 1, none⟩),
     fun yy _ => yy = .slice (some asg) m.sigs.l.length q1,
     fun yy _ => yy = .pointer (some ⟨xg, 1, none⟩),
     fun yy _ => yy = .slice (some ad) m.imps.l.length m.imps.cap,
     fun yy _ => yy = .int .i64 (k : Int),
     fun yy _ => yy = .pointer (some (ad.add (k * 3))),
     fun yy _ => yy = .pointer (some ⟨(ad.add (k * 3)).block, (ad.add (k * 3)).off + 2, none⟩),
     fun yy _ => yy = .int .i64 (n : Int),
     fun yy _ => yy = .pointer (some (asg.add (n * 2))),
     fun yy _ => yy = .agg #[.slice s.p.at_ s.p.l.length s.p.cap, .slice s.r.at_ s.r.l.length s.r.cap],
     fun yy W => ∃ q : Nat, yy = .slice (some ⟨q, 0, none⟩) 1 1 ∧ L ≤ q ∧ W.heap[q]? = some (.cells #[.slice s.p.at_ s.p.l.length s.p.cap, .slice s.r.at_ s.r.l.length s.r.cap] 46 (0, 0)),
     fun yy W => ∃ W1 : World, (W1.heap[eg]? = some (.cells #[fv, .slice A1 m.sigs.l.length q1, .slice none 0 0, .slice none 0 0, .slice none 0 0, .bool tb, .slice none 0 0, .slice none 0 0, .slice none 0 0] 48 (0, 0)) ∧ W1.ownsRow (L1) 46 2 fv (k) ((fnRow m k).flatMap SgL.cs)) ∧ Grows W1 W fv yy ∧ W.ownsRow (L1) 46 2 yy (k + 1) ((fnRow m k).flatMap SgL.cs ++ [.slice s.p.at_ s.p.l.length s.p.cap, .slice s.r.at_ s.r.l.length s.r.cap]) ∧ L ≤ W1.heap.size,
     fun yy _ => yy = .pointer (some ⟨eg, 0, none⟩),
     fun _ W => ∃ v9 : Value, (W.heap[eg]? = some (.cells #[v9, .slice A1 m.sigs.l.length q1, .slice none 0 0, .slice none 0 0, .slice none 0 0, .bool tb, .slice none 0 0, .slice none 0 0, .slice none 0 0] 48 (0, 0)) ∧ W.ownsRow (L1) 46 2 v9 (k + 1) ((fnRow m k).flatMap SgL.cs ++ [.slice s.p.at_ s.p.l.length s.p.cap, .slice s.r.at_ s.r.l.length s.r.cap])) ∧ LiesL L fv v9]) (by kernel_rfl) (by kernel_rfl) (by kernel_rfl) (by decide) rfl (by decide) (by kernel_rfl) (by intro i v w hd hF; rcases i with _ | _ | _ | _ | _ | _ | _ | _ | _ | _ | _ | _ | _ | _ | _ | _ | i <;> first | exact hF | exact absurd hd (by simp)) ?_ ?_
    ·refine ⟨?_, ?_, ?_, ?_, ?_, ?_, ?_, ?_, ?_, ?_, ?_, ?_, ?_, ?_, ?_, ?_, trivial⟩
     ·refine ObD.plain (by decide) rfl fun ρ W hk => ?_
      have o5 : ρ (.tmp 5) = .pointer (some ⟨eg, 0, none⟩) := hk.old 5 (by decide)
      exact OpOut.fieldAddr (x := .tmp 5) rfl o5 (by go_simp) ⟨Below.refl _ _, rfl⟩
     ·refine ObD.first rfl rfl fun ρ W hk hk0 => ?_
      have h0 := (hk.fact 0 47 (by decide) rfl).pure
      have hb9 := (hk0.below.block eg (blk_lt HST.out.1)).trans HST.out.1
      have hw9 := own_only3 (S := []) HST.out.2 (Only.of_below hk0.below) (by simp)
      have y0 := cell_blk hb9 0
      obtain ⟨A9, c9, hv9, _, _⟩ := own_form hw9
      simp at y0
      rw [hv9] at y0
      have HB9 := hide hb9; have HW9 := hide hw9
      have hL9 : L ≤ W.heap.size := by have := hk0.below.size; omega
      clear hb9 hw9
      exact OpOut.load (x := .tmp 47) rfl h0 (by go_simp) ⟨(OnlyE.ext _ _ _).refl _, hv9.symm, ⟨HB9.out, HW9.out⟩, hL9⟩
     ·refine ObD.plain (by decide) rfl fun ρ W hk => ?_
      have o5 : ρ (.tmp 5) = .pointer (some ⟨eg, 0, none⟩) := hk.old 5 (by decide)
      exact OpOut.fieldAddr (x := .tmp 5) rfl o5 (by go_simp) ⟨Below.refl _ _, rfl⟩
     ·refine ObD.plain (by decide) rfl fun ρ W hk => ?_
      have h2 := (hk.fact 2 49 (by decide) rfl).pure
      obtain ⟨e0, e1, e2, e3, e4⟩ := HX.out W hk.below
      exact OpOut.load (x := .tmp 49) rfl h2 (by go_simp) ⟨Below.refl _ _, rfl⟩
     ·refine ObD.plain (by decide) rfl fun ρ W hk => ?_
      have o2 : ρ (.tmp 2) = .pointer (some ⟨xg, 0, none⟩) := hk.old 2 (by decide)
      exact OpOut.fieldAddr (x := .tmp 2) rfl o2 (by go_simp) ⟨Below.refl _ _, rfl⟩
     ·refine ObD.plain (by decide) rfl fun ρ W hk => ?_
      have h4 := (hk.fact 4 51 (by decide) rfl).pure
      obtain ⟨e0, e1, e2, e3, e4⟩ := HX.out W hk.below
      exact OpOut.load (x := .tmp 51) rfl h4 (by go_simp) ⟨Below.refl _ _, rfl⟩
     ·refine ObD.plain (by decide) rfl fun ρ W hk => ?_
      have o7 : ρ (.tmp 7) = .int .i64 (k : Int) := hk.old 7 (by decide)
      exact OpOut.move (.tmp 7) rfl ⟨Below.refl _ _, o7⟩
     ·refine ObD.plain (by decide) rfl fun ρ W hk => ?_
      have h5 := (hk.fact 5 52 (by decide) rfl).pure
      have h6 := (hk.fact 6 53 (by decide) rfl).pure
      exact OpOut.indexAddrT (x := .tmp 52) (y := .tmp 53) rfl h5 h6 (by go_simp) ⟨Below.refl _ _, rfl⟩
     ·refine ObD.plain (by decide) rfl fun ρ W hk => ?_
      have h7 := (hk.fact 7 54 (by decide) rfl).pure
      exact OpOut.fieldAddr (x := .tmp 54) rfl h7 (by go_simp) ⟨Below.refl _ _, rfl⟩
     ·refine ObD.plain (by decide) rfl fun ρ W hk => ?_
      have h8 := (hk.fact 8 55 (by decide) rfl).pure
      obtain ⟨e0, e1, e2, e3, e4⟩ := HX.out W hk.below
      exact OpOut.load (x := .tmp 55) rfl h8 (by go_simp) ⟨Below.refl _ _, rfl⟩
     ·refine ObD.plain (by decide) rfl fun ρ W hk => ?_
      have h3 := (hk.fact 3 50 (by decide) rfl).pure
      have h9 := (hk.fact 9 56 (by decide) rfl).pure
      exact OpOut.indexAddrT (x := .tmp 50) (y := .tmp 56) rfl h3 h9 (by go_simp) ⟨Below.refl _ _, rfl⟩
     ·refine ObD.plain (by decide) rfl fun ρ W hk => ?_
      have h10 := (hk.fact 10 57 (by decide) rfl).pure
      obtain ⟨e0, e1, e2, e3, e4⟩ := HX.out W hk.below
      exact OpOut.load (x := .tmp 57) rfl h10 (by go_simp) ⟨Below.refl _ _, rfl⟩
     ·refine ObD.plain (by decide) rfl fun ρ W hk => ?_
      have h11 := (hk.fact 11 58 (by decide) rfl).pure
      have hLW : L ≤ W.heap.size := by have := hk.below.only.size; omega
      have hbA : Below W.heap.size W (W.alloc (.cells #[.slice s.p.at_ s.p.l.length s.p.cap, .slice s.r.at_ s.r.l.length s.r.cap] 46)) := (Below.refl _ _).alloc (Nat.le_refl _) _
      exact OpOut.buildSlice (us := #[(0, .agg #[.slice s.p.at_ s.p.l.length s.p.cap, .slice s.r.at_ s.r.l.length s.r.cap])]) rfl (by simp [h11]) (by go_simp) ⟨hbA, W.heap.size, rfl, hLW, heap_alloc_new W _⟩
     ·refine ObD.next 0 1 48 rfl rfl rfl rfl fun ρ W hk hw => ?_
      obtain ⟨w6, hw6, e6, hT6, hL6⟩ := hw
      obtain ⟨w7, hw7, q, h7, hq7, hb7⟩ := hk.fact 12 59 (by decide) rfl
      have hTb := (hw6.block eg (blk_lt hT6.1)).trans hT6.1
      have hTo := own_only3 (S := []) hT6.2 (Only.of_below hw6) (by simp)
      have hLW : L ≤ W.heap.size := Nat.le_trans hL6 hw6.size
      have hqW := (hw7.only.block q (blk_lt hb7) (fun hm => by have := HSM.out q hm; omega)).trans hb7
      obtain ⟨v9, w9, hrun, ho9, hg9⟩ := run_append_any (P := Tryz.prog) (w := W) (L1) (ty := 42) rsig_elem fv (k) ((fnRow m k).flatMap SgL.cs) hTo W.heap.size (some ⟨q, 0, none⟩) 1 1 [.slice s.p.at_ s.p.l.length s.p.cap, .slice s.r.at_ s.r.l.length s.r.cap] (reads_one hqW rfl) (by simp [Value.oneCell']) hroom (by omega)
      exact OpOut.append rfl e6 h7 hrun ⟨OnlyE.grows hg9 (fun q hq => List.mem_cons_of_mem _ (Option.mem_toList.2 hq)) (fun q hq => by have := own_ge hTo q hq; omega), W, ⟨hTb, hTo⟩, hg9, ho9, hLW⟩
     ·refine ObD.plain (by decide) rfl fun ρ W hk => ?_
      have o5 : ρ (.tmp 5) = .pointer (some ⟨eg, 0, none⟩) := hk.old 5 (by decide)
      exact OpOut.fieldAddr (x := .tmp 5) rfl o5 (by go_simp) ⟨Below.refl _ _, rfl⟩
     ·refine ObD.next 1 13 60 rfl rfl rfl rfl fun ρ W hk hw => ?_
      obtain ⟨w6, hw6, W1, hT1, hg1, ho1, hL1⟩ := hw
      have h14 := (hk.fact 14 61 (by decide) rfl).pure
      obtain ⟨yy, hyy⟩ : ∃ yy, ρ (.tmp 60) = yy := ⟨_, rfl⟩
      rw [hyy] at hg1 ho1
      have hg2 := hg1.trans (Grows.of_below hw6)
      have ho2 := own_only3 (S := []) ho1 (Only.of_below hw6) (by simp)
      have hblk9 := (hg2.only.block eg (blk_lt hT1.1) (fun hm => by have := own_ge hT1.2 eg (by simpa using hm); omega)).trans hT1.1
      have y0 := cell_blk hblk9 0
      have f0 := frozen_blk hblk9 0
      simp at y0
      obtain ⟨A9, c9, hv9, _, _⟩ := own_form ho2
      subst hv9
      obtain ⟨A8, c8, hv8, _, _⟩ := own_form hT1.2
      rw [hv8] at y0
      have hst9 := setCell_blk hblk9 0 (.slice A9 (k + 1) c9)
      have hO9 : OnlyE (eg :: (fv : Value).ownBlock.toList) eg 0 W (W.setCell ⟨eg, 0, none⟩ (.slice A9 (k + 1) c9)) := OnlyE.set (by simp) W _
      have hl9 : LiesL L fv (.slice A9 (k + 1) c9) := by rcases hg2.lies with e | ⟨g, e, hge⟩; exact .inl e; exact .inr ⟨g, e, Nat.le_trans hL1 hge⟩
      have ho3 := own_only3 (S := [eg]) ho2 (Only.setCell W (p := ⟨eg, 0, none⟩) (by simp) (.slice A9 (k + 1) c9)) (fun q hq hm => by have := own_ge ho2 q hq; simp at hm; omega)
      exact OpOut.storeT (x := .tmp 61) (y := .tmp 60) (W' := W.setCell ⟨eg, 0, none⟩ (.slice A9 (k + 1) c9)) rfl h14 hyy (by clear hblk9 hg1 hg2 ho1 ho2 hv8 hst9 hO9 hl9 ho3 hT1; go_simp) ⟨hO9, _, ⟨by simpa using hst9, ho3⟩, hl9⟩
    ·intro vs W2 hb2 hf hl9
     obtain ⟨w6, hw6, v9, hT6, hli6⟩ := hl9
     have HBN := hide ((hw6.block eg (blk_lt hT6.1)).trans hT6.1); have HON := hide (own_only3 (S := []) hT6.2 (Only.of_below hw6) (by simp)); have HLN := hide hli6; have HRN := hide hb2
     clear hf hw6 hT6 hb2 hli6
     simp only [fillL]
     generalize vs 0 = y0, vs 1 = y1, vs 2 = y2, vs 3 = y3, vs 4 = y4, vs 5 = y5, vs 6 = y6, vs 7 = y7, vs 8 = y8, vs 9 = y9, vs 10 = y10, vs 11 = y11, vs 12 = y12, vs 13 = y13, vs 14 = y14, vs 15 = y15
     go_frame
     have hbN : Hid (Below eg W W2) := hbw.out.trans (HRN.out.only.below (by omega) (fun x hx => by have := HSM.out x hx; omega))
     have hrN := hide (hr.out.onlyE HRN.out (fun x hx => (HSM.out x hx).2))
     have hLN : L1 ≤ W2.heap.size := by have := HRN.out.only.size; omega
     clear HX c0 c1 c2 c4 c5
     go_wp2_with fail
     go_roundw
     case rel => exact ⟨k + 1, v9, by go_num, by omega, HBN, (by have h9 := HON; rw [← HSG.out] at h9; first | (rw [fnRow_succ]; exact h9) | (rw [← Nat.add_assoc, fnRow_succ]; exact h9)), hrN, hbN, hLN⟩
     case measure => simp [intOf] <;> omega
   ·have hkn : k = m.imps.l.length := by omega
    have hlt3 : (m.imps.l.length : Int) ≤ (k : Int) := by omega
    have HO9 := ho
    rw [hkn] at HO9
    obtain ⟨A2, q2, hsv, _, _⟩ := own_form HO9.out
    subst hsv
    clear hlt ho
    go_wp2_with fail
    go_meet
    exact ⟨A2, q2, hblk, HO9, hr, hbw, hLw⟩
 case rest =>
 clear HBK1 HR1 HBW1
 obtain ⟨A2, q2, HBK2, HOW2, HR2, HBW2, hLw2⟩ := hcut
 go_upto_block 4 with fail
 go_cut [] (fun wx => ∃ (A2 : Option Addr) (c2 : Nat), Hid (wx.heap[eg]? = some (.cells #[.slice A2 (m.imps.l.length + m.funcs.l.length) c2, .slice A1 m.sigs.l.length q1, .slice none 0 0, .slice none 0 0, .slice none 0 0, .bool tb, .slice none 0 0, .slice none 0 0, .slice none 0 0] 48 (0, 0))) ∧ Hid (wx.ownsRow L1 46 2 (.slice A2 (m.imps.l.length + m.funcs.l.length) c2) (m.imps.l.length + m.funcs.l.length) ((fnRow m (m.imps.l.length + m.funcs.l.length)).flatMap SgL.cs)) ∧ Hid (RowB wx (eg + 1) L1 2 SgL.cs ⟨A1, q1, m.sigs.l⟩) ∧ Hid (Below eg W wx) ∧ L1 ≤ wx.heap.size)
 case first =>
  as_aux_lemma =>
   go_wp2_with fail
   go_loopw [8] (fun i w1 => ∃ (k : Nat) (fv : Value), i = .int .i64 k ∧ k ≤ m.funcs.l.length ∧ Hid (w1.heap[eg]? = some (.cells #[fv, .slice A1 m.sigs.l.length q1, .slice none 0 0, .slice none 0 0, .slice none 0 0, .bool tb, .slice none 0 0, .slice none 0 0, .slice none 0 0] 48 (0, 0))) ∧ Hid (w1.ownsRow L1 46 2 fv (m.imps.l.length + k) ((fnRow m (m.imps.l.length + k)).flatMap SgL.cs)) ∧ Hid (RowB w1 (eg + 1) L1 2 SgL.cs ⟨A1, q1, m.sigs.l⟩) ∧ Hid (Below eg W w1) ∧ L1 ≤ w1.heap.size) (fun i _ => m.funcs.l.length - (intOf i).toNat)
   case atStart => exact ⟨0, _, rfl, by omega, HBK2, HOW2, HR2, HBW2, hLw2⟩
   case round =>
   obtain ⟨k, fv, rfl, hk, hblk, ho, hr, hbw, hLw⟩ := hrel
   obtain ⟨c0, c1, c2, c4, c5, hin, _⟩ := HCL.out _ hbw.out
   by_cases hlt : k < m.funcs.l.length
   ·obtain ⟨z, hz⟩ : ∃ z, m.funcs.l[k]? = some z := ⟨_, List.getElem?_eq_getElem hlt⟩
    obtain ⟨ad, ha, _, _, _⟩ := hin.funcs.at_ (fun _ => rfl) hz
    obtain ⟨n, s, hn, hsn, _⟩ := fit_num hu.out (f := (m.imps.l.length + k)) (by omega)
    have hzs : z.sig = (n : Int) := by
     rw [← hn]; unfold sigN; rw [show m.g.imps = m.imps.l from rfl, if_neg (by omega), Nat.add_sub_cancel_left, show m.g.funcs.getD k noFu = z.g from getD_some (by simp [MoL.g, hz])]; rfl
    have hsg : sgAt m (m.imps.l.length + k) = s := by unfold sgAt; rw [hn, Int.toNat_natCast]; exact getD_some hsn
    obtain ⟨asg, has, _, _, _⟩ := hr.out.row.at_ (fun _ => rfl) hsn
    have has1 : A1 = some asg := has
    have hn3 : (n : Int) < (m.sigs.l.length : Int) := by have := lt_some hsn; omega
    obtain ⟨L, hL⟩ : ∃ L, wr.heap.size = L := ⟨_, rfl⟩
    have hLs : L ≤ wr.heap.size := by omega
    have hLs2 : wr.heap.size ≤ L := by omega
    have hegL : eg < L := by rw [← hL]; exact blk_lt hblk.out
    have hbL : L1 ≤ L := by omega
    have HSM : Hid (∀ x ∈ (eg :: (fv : Value).ownBlock.toList), x < L ∧ (x = eg ∨ L1 ≤ x)) := fun x hx => by
     rcases List.mem_cons.1 hx with e | e
     ·subst e; exact ⟨hegL, .inl rfl⟩
     ·have e2 := Option.mem_toList.1 e; have := own_ge ho.out x e2; have := own_lt ho.out x e2; exact ⟨by omega, .inr (by omega)⟩
    have HX : Hid (∀ V, OnlyE (eg :: (fv : Value).ownBlock.toList) eg 0 wr V → V.cell? ⟨xg, 2, none⟩ = some (.slice (some ad) m.funcs.l.length m.funcs.cap) ∧ V.cell? (ad.add (k * 3)) = some (.int .i64 (n : Int)) ∧ V.cell? ⟨eg, 1, none⟩ = some (.slice (some asg) m.sigs.l.length q1) ∧ V.cell? (asg.add (n * 2)) = some (.slice s.p.at_ s.p.l.length s.p.cap) ∧ V.cell? ⟨(asg.add (n * 2)).block, (asg.add (n * 2)).off + 1, none⟩ = some (.slice s.r.at_ s.r.l.length s.r.cap)) := fun V hV => by
     have hbV : Below eg wr V := hV.only.below (by omega) (fun x hx => by have := HSM.out x hx; omega)
     obtain ⟨k0V, k1V, k2V, k4V, k5V, hinV, hwV⟩ := HCL.out _ (hbw.out.trans hbV)
     rw [ha] at k2V
     obtain ⟨ad9, ha9, _, q09, qj9⟩ := hinV.funcs.at_ (fun _ => rfl) hz
     have e9 : ad9 = ad := by rw [ha] at ha9; injection ha9 with e; exact e.symm
     subst e9
     have he1 := (hV.cell 1 (by omega) (by omega)).trans (cell_blk hblk.out 1)
     simp at he1
     rw [has1] at he1
     have hrV := hr.out.onlyE hV (fun x hx => (HSM.out x hx).2)
     obtain ⟨as9, has9, _, p09, pj9⟩ := hrV.row.at_ (fun _ => rfl) hsn
     have e8 : as9 = asg := by have h8 : A1 = some as9 := has9; rw [has1] at h8; injection h8 with e; exact e.symm
     subst e8
     exact ⟨k2V, by rw [← hzs]; exact q09 _ rfl (by omega), he1, p09 _ rfl (by omega), pj9 1 (by omega) (by omega) _ rfl⟩
    have HST := hide (And.intro hblk.out ho.out)
    have hroom : Room (m.imps.l.length + k) 1 48 := room_of (by omega) (by omega)
    have hk3 : (k : Int) < (m.funcs.l.length : Int) := by omega
    rw [ha] at c2
    have HSG := hide hsg
    clear hz ha hin hL hzs hn hsn has has1 hsg
    go_upto_region 13 with fail
    refine wp_region_factsD grew_ext (OnlyE.ext (eg :: (fv : Value).ownBlock.toList) eg 0) (fun _ _ h => OnlyE.of_below h) [1, 13, 15] 15 (factsOf [fun yy _ => yy = .pointer (some ⟨eg, 0, none⟩),
     fun yy W => yy = fv ∧ (W.heap[eg]? = some (.cells #[fv, .slice A1 m.sigs.l.length q1, .slice none 0 0, .slice none 0 0, .slice none 0 0, .bool tb, .slice none 0 0, .slice none 0 0, .slice none 0 0] 48 (0, 0)) ∧ W.ownsRow (L1) 46 2 fv ((m.imps.l.length + k)) ((fnRow m (m.imps.l.length + k)).flatMap SgL.cs)) ∧ L ≤ W.heap.size,
     fun yy _ => yy = .pointer (some ⟨eg, 1, none⟩),
     fun yy _ => yy = .slice (some asg) m.sigs.l.length q1,
     fun yy _ => yy = .pointer (some ⟨xg, 2, none⟩),
     fun yy _ => yy = .slice (some ad) m.funcs.l.length m.funcs.cap,
     fun yy _ => yy = .int .i64 (k : Int),
     fun yy _ => yy = .pointer (some (ad.add (k * 3))),
     fun yy _ => yy = .pointer (some (ad.add (k * 3))),
     fun yy _ => yy = .int .i64 (n : Int),
     fun yy _ => yy = .pointer (some (asg.add (n * 2))),
     fun yy _ => yy = .agg #[.slice s.p.at_ s.p.l.length s.p.cap, .slice s.r.at_ s.r.l.length s.r.cap],
     fun yy W => ∃ q : Nat, yy = .slice (some ⟨q, 0, none⟩) 1 1 ∧ L ≤ q ∧ W.heap[q]? = some (.cells #[.slice s.p.at_ s.p.l.length s.p.cap, .slice s.r.at_ s.r.l.length s.r.cap] 46 (0, 0)),
     fun yy W => ∃ W1 : World, (W1.heap[eg]? = some (.cells #[fv, .slice A1 m.sigs.l.length q1, .slice none 0 0, .slice none 0 0, .slice none 0 0, .bool tb, .slice none 0 0, .slice none 0 0, .slice none 0 0] 48 (0, 0)) ∧ W1.ownsRow (L1) 46 2 fv ((m.imps.l.length + k)) ((fnRow m (m.imps.l.length + k)).flatMap SgL.cs)) ∧ Grows W1 W fv yy ∧ W.ownsRow (L1) 46 2 yy ((m.imps.l.length + k) + 1) ((fnRow m (m.imps.l.length + k)).flatMap SgL.cs ++ [.slice s.p.at_ s.p.l.length s.p.cap, .slice s.r.at_ s.r.l.length s.r.cap]) ∧ L ≤ W1.heap.size,
     fun yy _ => yy = .pointer (some ⟨eg, 0, none⟩),
     fun _ W => ∃ v9 : Value, (W.heap[eg]? = some (.cells #[v9, .slice A1 m.sigs.l.length q1, .slice none 0 0, .slice none 0 0, .slice none 0 0, .bool tb, .slice none 0 0, .slice none 0 0, .slice none 0 0] 48 (0, 0)) ∧ W.ownsRow (L1) 46 2 v9 ((m.imps.l.length + k) + 1) ((fnRow m (m.imps.l.length + k)).flatMap SgL.cs ++ [.slice s.p.at_ s.p.l.length s.p.cap, .slice s.r.at_ s.r.l.length s.r.cap])) ∧ LiesL L fv v9]) (by kernel_rfl) (by kernel_rfl) (by kernel_rfl) (by decide) rfl (by decide) (by kernel_rfl) (by intro i v w hd hF; rcases i with _ | _ | _ | _ | _ | _ | _ | _ | _ | _ | _ | _ | _ | _ | _ | _ | i <;> first | exact hF | exact absurd hd (by simp)) ?_ ?_
    ·refine ⟨?_, ?_, ?_, ?_, ?_, ?_, ?_, ?_, ?_, ?_, ?_, ?_, ?_, ?_, ?_, ?_, trivial⟩
     ·refine ObD.plain (by decide) rfl fun ρ W hk => ?_
      have o5 : ρ (.tmp 5) = .pointer (some ⟨eg, 0, none⟩) := hk.old 5 (by decide)
      exact OpOut.fieldAddr (x := .tmp 5) rfl o5 (by go_simp) ⟨Below.refl _ _, rfl⟩
     ·refine ObD.first rfl rfl fun ρ W hk hk0 => ?_
      have h0 := (hk.fact 0 69 (by decide) rfl).pure
      have hb9 := (hk0.below.block eg (blk_lt HST.out.1)).trans HST.out.1
      have hw9 := own_only3 (S := []) HST.out.2 (Only.of_below hk0.below) (by simp)
      have y0 := cell_blk hb9 0
      obtain ⟨A9, c9, hv9, _, _⟩ := own_form hw9
      simp at y0
      rw [hv9] at y0
      have HB9 := hide hb9; have HW9 := hide hw9
      have hL9 : L ≤ W.heap.size := by have := hk0.below.size; omega
      clear hb9 hw9
      exact OpOut.load (x := .tmp 69) rfl h0 (by go_simp) ⟨(OnlyE.ext _ _ _).refl _, hv9.symm, ⟨HB9.out, HW9.out⟩, hL9⟩
     ·refine ObD.plain (by decide) rfl fun ρ W hk => ?_
      have o5 : ρ (.tmp 5) = .pointer (some ⟨eg, 0, none⟩) := hk.old 5 (by decide)
      exact OpOut.fieldAddr (x := .tmp 5) rfl o5 (by go_simp) ⟨Below.refl _ _, rfl⟩
     ·refine ObD.plain (by decide) rfl fun ρ W hk => ?_
      have h2 := (hk.fact 2 71 (by decide) rfl).pure
      obtain ⟨e0, e1, e2, e3, e4⟩ := HX.out W hk.below
      exact OpOut.load (x := .tmp 71) rfl h2 (by go_simp) ⟨Below.refl _ _, rfl⟩
     ·refine ObD.plain (by decide) rfl fun ρ W hk => ?_
      have o2 : ρ (.tmp 2) = .pointer (some ⟨xg, 0, none⟩) := hk.old 2 (by decide)
      exact OpOut.fieldAddr (x := .tmp 2) rfl o2 (by go_simp) ⟨Below.refl _ _, rfl⟩
     ·refine ObD.plain (by decide) rfl fun ρ W hk => ?_
      have h4 := (hk.fact 4 73 (by decide) rfl).pure
      obtain ⟨e0, e1, e2, e3, e4⟩ := HX.out W hk.below
      exact OpOut.load (x := .tmp 73) rfl h4 (by go_simp) ⟨Below.refl _ _, rfl⟩
     ·refine ObD.plain (by decide) rfl fun ρ W hk => ?_
      have o8 : ρ (.tmp 8) = .int .i64 (k : Int) := hk.old 8 (by decide)
      exact OpOut.move (.tmp 8) rfl ⟨Below.refl _ _, o8⟩
     ·refine ObD.plain (by decide) rfl fun ρ W hk => ?_
      have h5 := (hk.fact 5 74 (by decide) rfl).pure
      have h6 := (hk.fact 6 75 (by decide) rfl).pure
      exact OpOut.indexAddrT (x := .tmp 74) (y := .tmp 75) rfl h5 h6 (by go_simp) ⟨Below.refl _ _, rfl⟩
     ·refine ObD.plain (by decide) rfl fun ρ W hk => ?_
      have h7 := (hk.fact 7 76 (by decide) rfl).pure
      exact OpOut.fieldAddr (x := .tmp 76) rfl h7 (by go_simp) ⟨Below.refl _ _, rfl⟩
     ·refine ObD.plain (by decide) rfl fun ρ W hk => ?_
      have h8 := (hk.fact 8 77 (by decide) rfl).pure
      obtain ⟨e0, e1, e2, e3, e4⟩ := HX.out W hk.below
      exact OpOut.load (x := .tmp 77) rfl h8 (by go_simp) ⟨Below.refl _ _, rfl⟩
     ·refine ObD.plain (by decide) rfl fun ρ W hk => ?_
      have h3 := (hk.fact 3 72 (by decide) rfl).pure
      have h9 := (hk.fact 9 78 (by decide) rfl).pure
      exact OpOut.indexAddrT (x := .tmp 72) (y := .tmp 78) rfl h3 h9 (by go_simp) ⟨Below.refl _ _, rfl⟩
     ·refine ObD.plain (by decide) rfl fun ρ W hk => ?_
      have h10 := (hk.fact 10 79 (by decide) rfl).pure
      obtain ⟨e0, e1, e2, e3, e4⟩ := HX.out W hk.below
      exact OpOut.load (x := .tmp 79) rfl h10 (by go_simp) ⟨Below.refl _ _, rfl⟩
     ·refine ObD.plain (by decide) rfl fun ρ W hk => ?_
      have h11 := (hk.fact 11 80 (by decide) rfl).pure
      have hLW : L ≤ W.heap.size := by have := hk.below.only.size; omega
      have hbA : Below W.heap.size W (W.alloc (.cells #[.slice s.p.at_ s.p.l.length s.p.cap, .slice s.r.at_ s.r.l.length s.r.cap] 46)) := (Below.refl _ _).alloc (Nat.le_refl _) _
      exact OpOut.buildSlice (us := #[(0, .agg #[.slice s.p.at_ s.p.l.length s.p.cap, .slice s.r.at_ s.r.l.length s.r.cap])]) rfl (by simp [h11]) (by go_simp) ⟨hbA, W.heap.size, rfl, hLW, heap_alloc_new W _⟩
     ·refine ObD.next 0 1 70 rfl rfl rfl rfl fun ρ W hk hw => ?_
      obtain ⟨w6, hw6, e6, hT6, hL6⟩ := hw
      obtain ⟨w7, hw7, q, h7, hq7, hb7⟩ := hk.fact 12 81 (by decide) rfl
      have hTb := (hw6.block eg (blk_lt hT6.1)).trans hT6.1
      have hTo := own_only3 (S := []) hT6.2 (Only.of_below hw6) (by simp)
      have hLW : L ≤ W.heap.size := Nat.le_trans hL6 hw6.size
      have hqW := (hw7.only.block q (blk_lt hb7) (fun hm => by have := HSM.out q hm; omega)).trans hb7
      obtain ⟨v9, w9, hrun, ho9, hg9⟩ := run_append_any (P := Tryz.prog) (w := W) (L1) (ty := 42) rsig_elem fv ((m.imps.l.length + k)) ((fnRow m (m.imps.l.length + k)).flatMap SgL.cs) hTo W.heap.size (some ⟨q, 0, none⟩) 1 1 [.slice s.p.at_ s.p.l.length s.p.cap, .slice s.r.at_ s.r.l.length s.r.cap] (reads_one hqW rfl) (by simp [Value.oneCell']) hroom (by omega)
      exact OpOut.append rfl e6 h7 hrun ⟨OnlyE.grows hg9 (fun q hq => List.mem_cons_of_mem _ (Option.mem_toList.2 hq)) (fun q hq => by have := own_ge hTo q hq; omega), W, ⟨hTb, hTo⟩, hg9, ho9, hLW⟩
     ·refine ObD.plain (by decide) rfl fun ρ W hk => ?_
      have o5 : ρ (.tmp 5) = .pointer (some ⟨eg, 0, none⟩) := hk.old 5 (by decide)
      exact OpOut.fieldAddr (x := .tmp 5) rfl o5 (by go_simp) ⟨Below.refl _ _, rfl⟩
     ·refine ObD.next 1 13 82 rfl rfl rfl rfl fun ρ W hk hw => ?_
      obtain ⟨w6, hw6, W1, hT1, hg1, ho1, hL1⟩ := hw
      have h14 := (hk.fact 14 83 (by decide) rfl).pure
      obtain ⟨yy, hyy⟩ : ∃ yy, ρ (.tmp 82) = yy := ⟨_, rfl⟩
      rw [hyy] at hg1 ho1
      have hg2 := hg1.trans (Grows.of_below hw6)
      have ho2 := own_only3 (S := []) ho1 (Only.of_below hw6) (by simp)
      have hblk9 := (hg2.only.block eg (blk_lt hT1.1) (fun hm => by have := own_ge hT1.2 eg (by simpa using hm); omega)).trans hT1.1
      have y0 := cell_blk hblk9 0
      have f0 := frozen_blk hblk9 0
      simp at y0
      obtain ⟨A9, c9, hv9, _, _⟩ := own_form ho2
      subst hv9
      obtain ⟨A8, c8, hv8, _, _⟩ := own_form hT1.2
      rw [hv8] at y0
      have hst9 := setCell_blk hblk9 0 (.slice A9 ((m.imps.l.length + k) + 1) c9)
      have hO9 : OnlyE (eg :: (fv : Value).ownBlock.toList) eg 0 W (W.setCell ⟨eg, 0, none⟩ (.slice A9 ((m.imps.l.length + k) + 1) c9)) := OnlyE.set (by simp) W _
      have hl9 : LiesL L fv (.slice A9 ((m.imps.l.length + k) + 1) c9) := by rcases hg2.lies with e | ⟨g, e, hge⟩; exact .inl e; exact .inr ⟨g, e, Nat.le_trans hL1 hge⟩
      have ho3 := own_only3 (S := [eg]) ho2 (Only.setCell W (p := ⟨eg, 0, none⟩) (by simp) (.slice A9 ((m.imps.l.length + k) + 1) c9)) (fun q hq hm => by have := own_ge ho2 q hq; simp at hm; omega)
      exact OpOut.storeT (x := .tmp 83) (y := .tmp 82) (W' := W.setCell ⟨eg, 0, none⟩ (.slice A9 ((m.imps.l.length + k) + 1) c9)) rfl h14 hyy (by clear hblk9 hg1 hg2 ho1 ho2 hv8 hst9 hO9 hl9 ho3 hT1; go_simp) ⟨hO9, _, ⟨by simpa using hst9, ho3⟩, hl9⟩
    ·intro vs W2 hb2 hf hl9
     obtain ⟨w6, hw6, v9, hT6, hli6⟩ := hl9
     have HBN := hide ((hw6.block eg (blk_lt hT6.1)).trans hT6.1); have HON := hide (own_only3 (S := []) hT6.2 (Only.of_below hw6) (by simp)); have HLN := hide hli6; have HRN := hide hb2
     clear hf hw6 hT6 hb2 hli6
     simp only [fillL]
     generalize vs 0 = y0, vs 1 = y1, vs 2 = y2, vs 3 = y3, vs 4 = y4, vs 5 = y5, vs 6 = y6, vs 7 = y7, vs 8 = y8, vs 9 = y9, vs 10 = y10, vs 11 = y11, vs 12 = y12, vs 13 = y13, vs 14 = y14, vs 15 = y15
     go_frame
     have hbN : Hid (Below eg W W2) := hbw.out.trans (HRN.out.only.below (by omega) (fun x hx => by have := HSM.out x hx; omega))
     have hrN := hide (hr.out.onlyE HRN.out (fun x hx => (HSM.out x hx).2))
     have hLN : L1 ≤ W2.heap.size := by have := HRN.out.only.size; omega
     clear HX c0 c1 c2 c4 c5
     go_wp2_with fail
     go_roundw
     case rel => exact ⟨k + 1, v9, by go_num, by omega, HBN, (by have h9 := HON; rw [← HSG.out] at h9; first | (rw [fnRow_succ]; exact h9) | (rw [← Nat.add_assoc, fnRow_succ]; exact h9)), hrN, hbN, hLN⟩
     case measure => simp [intOf] <;> omega
   ·have hkn : k = m.funcs.l.length := by omega
    have hlt3 : (m.funcs.l.length : Int) ≤ (k : Int) := by omega
    have HO9 := ho
    rw [hkn] at HO9
    obtain ⟨A2, q2, hsv, _, _⟩ := own_form HO9.out
    subst hsv
    clear hlt ho
    go_wp2_with fail
    go_meet
    exact ⟨A2, q2, hblk, HO9, hr, hbw, hLw⟩
 case rest =>
 clear HBK2 HOW2 HR2 HBW2 hLw2
 obtain ⟨A3, q3, HBK3, HOW3, HR3, HBW3, hLw3⟩ := hcut
 obtain ⟨N, hN⟩ : ∃ N, m.imps.l.length + m.funcs.l.length = N := ⟨_, rfl⟩
 rw [hN] at HBK3 HOW3
 have HN := hide hN
 obtain ⟨L2, hL2⟩ : ∃ L2, wc.heap.size = L2 := ⟨_, rfl⟩
 have hegL2 : eg < L2 := by omega
 have HF3 : Hid (RowB wc (eg + 1) L2 2 SgL.cs ⟨A3, q3, fnRow m N⟩) := (RowB.of HOW3.out (fnRow_len m N).symm (by omega)).up (by omega) (Nat.le_refl _)
 have HS3 : Hid (RowB wc (eg + 1) L2 2 SgL.cs ⟨A1, q1, m.sigs.l⟩) := HR3.out.up (Nat.le_refl _) (by omega)
 have HL2 := hide hL2; have HF3l : (fnRow m N).length = N := fnRow_len m N
 clear hL2 HOW3 HR3 hN
 go_upto_block 6 with fail
 go_cut [] (fun wx => ∃ (A4 : Option Addr) (c4 : Nat), Hid (wx.heap[eg]? = some (.cells #[.slice A3 N q3, .slice A1 m.sigs.l.length q1, .slice A4 m.mems.l.length c4, .slice none 0 0, .slice none 0 0, .bool tb, .slice none 0 0, .slice none 0 0, .slice none 0 0] 48 (0, 0))) ∧ Hid (wx.ownsRow L2 4 1 (.slice A4 m.mems.l.length c4) m.mems.l.length ((m.mems.l.map (fun x => x.wide)).flatMap tD)) ∧ Hid (RowB wx (eg + 1) L2 2 SgL.cs ⟨A3, q3, fnRow m N⟩) ∧ Hid (RowB wx (eg + 1) L2 2 SgL.cs ⟨A1, q1, m.sigs.l⟩) ∧ Hid (Below eg W wx) ∧ L2 ≤ wx.heap.size)
 case first =>
  as_aux_lemma =>
   go_wp2_with fail
   go_loopw [9] (fun i w1 => ∃ (k : Nat) (wv : Value), i = .int .i64 k ∧ k ≤ m.mems.l.length ∧ Hid (w1.heap[eg]? = some (.cells #[.slice A3 N q3, .slice A1 m.sigs.l.length q1, wv, .slice none 0 0, .slice none 0 0, .bool tb, .slice none 0 0, .slice none 0 0, .slice none 0 0] 48 (0, 0))) ∧ Hid (w1.ownsRow L2 4 1 wv k (((m.mems.l.take k).map (fun x => x.wide)).flatMap tD)) ∧ Hid (RowB w1 (eg + 1) L2 2 SgL.cs ⟨A3, q3, fnRow m N⟩) ∧ Hid (RowB w1 (eg + 1) L2 2 SgL.cs ⟨A1, q1, m.sigs.l⟩) ∧ Hid (Below eg W w1) ∧ L2 ≤ w1.heap.size) (fun i _ => m.mems.l.length - (intOf i).toNat)
   case atStart => exact ⟨0, _, rfl, by omega, HBK3, own_nil _ _ _ _, HF3, HS3, HBW3, by have := HL2.out; omega⟩
   case round =>
   obtain ⟨k, wv, rfl, hk, hblk, ho, hrf, hrs, hbw, hLw⟩ := hrel
   obtain ⟨c0, c1, c2, c4, c5, hin, _⟩ := HCL.out _ hbw.out
   by_cases hlt : k < m.mems.l.length
   ·obtain ⟨z, hz⟩ : ∃ z, m.mems.l[k]? = some z := ⟨_, List.getElem?_eq_getElem hlt⟩
    obtain ⟨ad, ha, _, _, _⟩ := hin.mems.at_ (fun _ => rfl) hz
    obtain ⟨L, hL⟩ : ∃ L, wr.heap.size = L := ⟨_, rfl⟩
    have hLs : L ≤ wr.heap.size := by omega
    have hLs2 : wr.heap.size ≤ L := by omega
    have hegL : eg < L := by rw [← hL]; exact blk_lt hblk.out
    have hbL : L2 ≤ L := by omega
    have HSM : Hid (∀ x ∈ (eg :: (wv : Value).ownBlock.toList), x < L ∧ (x = eg ∨ L2 ≤ x)) := fun x hx => by
     rcases List.mem_cons.1 hx with e | e
     ·subst e; exact ⟨hegL, .inl rfl⟩
     ·have e2 := Option.mem_toList.1 e; have := own_ge ho.out x e2; have := own_lt ho.out x e2; exact ⟨by omega, .inr (by omega)⟩
    have HX : Hid (∀ V, OnlyE (eg :: (wv : Value).ownBlock.toList) eg 2 wr V → V.cell? ⟨xg, 4, none⟩ = some (.slice (some ad) m.mems.l.length m.mems.cap) ∧ V.cell? ⟨(ad.add (k * 3)).block, (ad.add (k * 3)).off + 2, none⟩ = some (.bool z.wide)) := fun V hV => by
     have hbV : Below eg wr V := hV.only.below (by omega) (fun x hx => by have := HSM.out x hx; omega)
     obtain ⟨k0V, k1V, k2V, k4V, k5V, hinV, hwV⟩ := HCL.out _ (hbw.out.trans hbV)
     rw [ha] at k4V
     obtain ⟨ad9, ha9, _, q09, qj9⟩ := hinV.mems.at_ (fun _ => rfl) hz
     have e9 : ad9 = ad := by rw [ha] at ha9; injection ha9 with e; exact e.symm
     subst e9
     exact ⟨k4V, qj9 2 (by omega) (by omega) _ rfl⟩
    have HST := hide (And.intro hblk.out ho.out)
    have hroom : Room k 1 1 := room_of (by omega) (by omega)
    have hk3 : (k : Int) < (m.mems.l.length : Int) := by omega
    rw [ha] at c4
    have HZ := hide hz
    clear hz ha hin hL
    go_upto_region 17 with fail
    refine wp_region_factsD grew_ext (OnlyE.ext (eg :: (wv : Value).ownBlock.toList) eg 2) (fun _ _ h => OnlyE.of_below h) [1, 9, 11] 11 (factsOf [fun yy _ => yy = .pointer (some ⟨eg, 2, none⟩),
     fun yy W => yy = wv ∧ (W.heap[eg]? = some (.cells #[.slice A3 N q3, .slice A1 m.sigs.l.length q1, wv, .slice none 0 0, .slice none 0 0, .bool tb, .slice none 0 0, .slice none 0 0, .slice none 0 0] 48 (0, 0)) ∧ W.ownsRow (L2) 4 1 wv (k) (((m.mems.l.take k).map (fun x => x.wide)).flatMap tD)) ∧ L ≤ W.heap.size,
     fun yy _ => yy = .pointer (some ⟨xg, 4, none⟩),
     fun yy _ => yy = .slice (some ad) m.mems.l.length m.mems.cap,
     fun yy _ => yy = .int .i64 (k : Int),
     fun yy _ => yy = .pointer (some (ad.add (k * 3))),
     fun yy _ => yy = .pointer (some ⟨(ad.add (k * 3)).block, (ad.add (k * 3)).off + 2, none⟩),
     fun yy _ => yy = .bool z.wide,
     fun yy W => ∃ q : Nat, yy = .slice (some ⟨q, 0, none⟩) 1 1 ∧ L ≤ q ∧ W.heap[q]? = some (.cells #[.bool z.wide] 4 (0, 0)),
     fun yy W => ∃ W1 : World, (W1.heap[eg]? = some (.cells #[.slice A3 N q3, .slice A1 m.sigs.l.length q1, wv, .slice none 0 0, .slice none 0 0, .bool tb, .slice none 0 0, .slice none 0 0, .slice none 0 0] 48 (0, 0)) ∧ W1.ownsRow (L2) 4 1 wv (k) (((m.mems.l.take k).map (fun x => x.wide)).flatMap tD)) ∧ Grows W1 W wv yy ∧ W.ownsRow (L2) 4 1 yy (k + 1) (((m.mems.l.take k).map (fun x => x.wide)).flatMap tD ++ [.bool z.wide]) ∧ L ≤ W1.heap.size,
     fun yy _ => yy = .pointer (some ⟨eg, 2, none⟩),
     fun _ W => ∃ v9 : Value, (W.heap[eg]? = some (.cells #[.slice A3 N q3, .slice A1 m.sigs.l.length q1, v9, .slice none 0 0, .slice none 0 0, .bool tb, .slice none 0 0, .slice none 0 0, .slice none 0 0] 48 (0, 0)) ∧ W.ownsRow (L2) 4 1 v9 (k + 1) (((m.mems.l.take k).map (fun x => x.wide)).flatMap tD ++ [.bool z.wide])) ∧ LiesL L wv v9]) (by kernel_rfl) (by kernel_rfl) (by kernel_rfl) (by decide) rfl (by decide) (by kernel_rfl) (by intro i v w hd hF; rcases i with _ | _ | _ | _ | _ | _ | _ | _ | _ | _ | _ | _ | i <;> first | exact hF | exact absurd hd (by simp)) ?_ ?_
    ·refine ⟨?_, ?_, ?_, ?_, ?_, ?_, ?_, ?_, ?_, ?_, ?_, ?_, trivial⟩
     ·refine ObD.plain (by decide) rfl fun ρ W hk => ?_
      have o5 : ρ (.tmp 5) = .pointer (some ⟨eg, 0, none⟩) := hk.old 5 (by decide)
      exact OpOut.fieldAddr (x := .tmp 5) rfl o5 (by go_simp) ⟨Below.refl _ _, rfl⟩
     ·refine ObD.first rfl rfl fun ρ W hk hk0 => ?_
      have h0 := (hk.fact 0 91 (by decide) rfl).pure
      have hb9 := (hk0.below.block eg (blk_lt HST.out.1)).trans HST.out.1
      have hw9 := own_only3 (S := []) HST.out.2 (Only.of_below hk0.below) (by simp)
      have y0 := cell_blk hb9 2
      obtain ⟨A9, c9, hv9, _, _⟩ := own_form hw9
      simp at y0
      rw [hv9] at y0
      have HB9 := hide hb9; have HW9 := hide hw9
      have hL9 : L ≤ W.heap.size := by have := hk0.below.size; omega
      clear hb9 hw9
      exact OpOut.load (x := .tmp 91) rfl h0 (by go_simp) ⟨(OnlyE.ext _ _ _).refl _, hv9.symm, ⟨HB9.out, HW9.out⟩, hL9⟩
     ·refine ObD.plain (by decide) rfl fun ρ W hk => ?_
      have o2 : ρ (.tmp 2) = .pointer (some ⟨xg, 0, none⟩) := hk.old 2 (by decide)
      exact OpOut.fieldAddr (x := .tmp 2) rfl o2 (by go_simp) ⟨Below.refl _ _, rfl⟩
     ·refine ObD.plain (by decide) rfl fun ρ W hk => ?_
      have h2 := (hk.fact 2 93 (by decide) rfl).pure
      obtain ⟨e0, e1⟩ := HX.out W hk.below
      exact OpOut.load (x := .tmp 93) rfl h2 (by go_simp) ⟨Below.refl _ _, rfl⟩
     ·refine ObD.plain (by decide) rfl fun ρ W hk => ?_
      have o9 : ρ (.tmp 9) = .int .i64 (k : Int) := hk.old 9 (by decide)
      exact OpOut.move (.tmp 9) rfl ⟨Below.refl _ _, o9⟩
     ·refine ObD.plain (by decide) rfl fun ρ W hk => ?_
      have h3 := (hk.fact 3 94 (by decide) rfl).pure
      have h4 := (hk.fact 4 95 (by decide) rfl).pure
      exact OpOut.indexAddrT (x := .tmp 94) (y := .tmp 95) rfl h3 h4 (by go_simp) ⟨Below.refl _ _, rfl⟩
     ·refine ObD.plain (by decide) rfl fun ρ W hk => ?_
      have h5 := (hk.fact 5 96 (by decide) rfl).pure
      exact OpOut.fieldAddr (x := .tmp 96) rfl h5 (by go_simp) ⟨Below.refl _ _, rfl⟩
     ·refine ObD.plain (by decide) rfl fun ρ W hk => ?_
      have h6 := (hk.fact 6 97 (by decide) rfl).pure
      obtain ⟨e0, e1⟩ := HX.out W hk.below
      exact OpOut.load (x := .tmp 97) rfl h6 (by go_simp) ⟨Below.refl _ _, rfl⟩
     ·refine ObD.plain (by decide) rfl fun ρ W hk => ?_
      have h7 := (hk.fact 7 98 (by decide) rfl).pure
      have hLW : L ≤ W.heap.size := by have := hk.below.only.size; omega
      have hbA : Below W.heap.size W (W.alloc (.cells #[.bool z.wide] 4)) := (Below.refl _ _).alloc (Nat.le_refl _) _
      exact OpOut.buildSlice (us := #[(0, .bool z.wide)]) rfl (by simp [h7]) (by go_simp) ⟨hbA, W.heap.size, rfl, hLW, heap_alloc_new W _⟩
     ·refine ObD.next 0 1 92 rfl rfl rfl rfl fun ρ W hk hw => ?_
      obtain ⟨w6, hw6, e6, hT6, hL6⟩ := hw
      obtain ⟨w7, hw7, q, h7, hq7, hb7⟩ := hk.fact 8 99 (by decide) rfl
      have hTb := (hw6.block eg (blk_lt hT6.1)).trans hT6.1
      have hTo := own_only3 (S := []) hT6.2 (Only.of_below hw6) (by simp)
      have hLW : L ≤ W.heap.size := Nat.le_trans hL6 hw6.size
      have hqW := (hw7.only.block q (blk_lt hb7) (fun hm => by have := HSM.out q hm; omega)).trans hb7
      obtain ⟨v9, w9, hrun, ho9, hg9⟩ := run_append_any (P := Tryz.prog) (w := W) (L2) (ty := 43) ebool_elem wv (k) (((m.mems.l.take k).map (fun x => x.wide)).flatMap tD) hTo W.heap.size (some ⟨q, 0, none⟩) 1 1 [.bool z.wide] (reads_one hqW rfl) (by simp [Value.oneCell']) hroom (by omega)
      exact OpOut.append rfl e6 h7 hrun ⟨OnlyE.grows hg9 (fun q hq => List.mem_cons_of_mem _ (Option.mem_toList.2 hq)) (fun q hq => by have := own_ge hTo q hq; omega), W, ⟨hTb, hTo⟩, hg9, ho9, hLW⟩
     ·refine ObD.plain (by decide) rfl fun ρ W hk => ?_
      have o5 : ρ (.tmp 5) = .pointer (some ⟨eg, 0, none⟩) := hk.old 5 (by decide)
      exact OpOut.fieldAddr (x := .tmp 5) rfl o5 (by go_simp) ⟨Below.refl _ _, rfl⟩
     ·refine ObD.next 1 9 100 rfl rfl rfl rfl fun ρ W hk hw => ?_
      obtain ⟨w6, hw6, W1, hT1, hg1, ho1, hL1⟩ := hw
      have h10 := (hk.fact 10 101 (by decide) rfl).pure
      obtain ⟨yy, hyy⟩ : ∃ yy, ρ (.tmp 100) = yy := ⟨_, rfl⟩
      rw [hyy] at hg1 ho1
      have hg2 := hg1.trans (Grows.of_below hw6)
      have ho2 := own_only3 (S := []) ho1 (Only.of_below hw6) (by simp)
      have hblk9 := (hg2.only.block eg (blk_lt hT1.1) (fun hm => by have := own_ge hT1.2 eg (by simpa using hm); omega)).trans hT1.1
      have y0 := cell_blk hblk9 2
      have f0 := frozen_blk hblk9 2
      simp at y0
      obtain ⟨A9, c9, hv9, _, _⟩ := own_form ho2
      subst hv9
      obtain ⟨A8, c8, hv8, _, _⟩ := own_form hT1.2
      rw [hv8] at y0
      have hst9 := setCell_blk hblk9 2 (.slice A9 (k + 1) c9)
      have hO9 : OnlyE (eg :: (wv : Value).ownBlock.toList) eg 2 W (W.setCell ⟨eg, 2, none⟩ (.slice A9 (k + 1) c9)) := OnlyE.set (by simp) W _
      have hl9 : LiesL L wv (.slice A9 (k + 1) c9) := by rcases hg2.lies with e | ⟨g, e, hge⟩; exact .inl e; exact .inr ⟨g, e, Nat.le_trans hL1 hge⟩
      have ho3 := own_only3 (S := [eg]) ho2 (Only.setCell W (p := ⟨eg, 2, none⟩) (by simp) (.slice A9 (k + 1) c9)) (fun q hq hm => by have := own_ge ho2 q hq; simp at hm; omega)
      exact OpOut.storeT (x := .tmp 101) (y := .tmp 100) (W' := W.setCell ⟨eg, 2, none⟩ (.slice A9 (k + 1) c9)) rfl h10 hyy (by clear hblk9 hg1 hg2 ho1 ho2 hv8 hst9 hO9 hl9 ho3 hT1; go_simp) ⟨hO9, _, ⟨by simpa using hst9, ho3⟩, hl9⟩
    ·intro vs W2 hb2 hf hl9
     obtain ⟨w6, hw6, v9, hT6, hli6⟩ := hl9
     have HBN := hide ((hw6.block eg (blk_lt hT6.1)).trans hT6.1); have HON := hide (own_only3 (S := []) hT6.2 (Only.of_below hw6) (by simp)); have HLN := hide hli6; have HRN := hide hb2
     clear hf hw6 hT6 hb2 hli6
     simp only [fillL]
     generalize vs 0 = y0, vs 1 = y1, vs 2 = y2, vs 3 = y3, vs 4 = y4, vs 5 = y5, vs 6 = y6, vs 7 = y7, vs 8 = y8, vs 9 = y9, vs 10 = y10, vs 11 = y11
     go_frame
     have hbN : Hid (Below eg W W2) := hbw.out.trans (HRN.out.only.below (by omega) (fun x hx => by have := HSM.out x hx; omega))
     have hrfN := hide (hrf.out.onlyE HRN.out (fun x hx => (HSM.out x hx).2))
     have hrsN := hide (hrs.out.onlyE HRN.out (fun x hx => (HSM.out x hx).2))
     have hLN : L2 ≤ W2.heap.size := by have := HRN.out.only.size; omega
     clear HX c0 c1 c2 c4 c5
     go_wp2_with fail
     go_roundw
     case rel => exact ⟨k + 1, v9, by go_num, by omega, HBN, (by rw [List.map_take, flat_take tD (show (m.mems.l.map (fun x => x.wide))[k]? = some z.wide by simp [HZ.out]), ← List.map_take]; exact HON), hrfN, hrsN, hbN, hLN⟩
     case measure => simp [intOf] <;> omega
   ·have hkn : k = m.mems.l.length := by omega
    have hlt3 : (m.mems.l.length : Int) ≤ (k : Int) := by omega
    have HO9 := ho
    rw [hkn, List.take_length] at HO9
    obtain ⟨A4, q4, hsv, _, _⟩ := own_form HO9.out
    subst hsv
    clear hlt ho
    go_wp2_with fail
    go_meet
    exact ⟨A4, q4, hblk, HO9, hrf, hrs, hbw, hLw⟩
 case rest =>
 clear HBK3 HF3 HS3 HBW3 hLw3
 obtain ⟨A4, q4, HBK4, HOW4, HF4, HS4, HBW4, hLw4⟩ := hcut
 obtain ⟨L3, hL3⟩ : ∃ L3, wc.heap.size = L3 := ⟨_, rfl⟩
 have hegL3 : eg < L3 := by omega
 have HW5 : Hid (RowB wc (eg + 1) L3 1 tD ⟨A4, q4, m.mems.l.map (fun x => x.wide)⟩) := (RowB.of HOW4.out (by simp) (by omega)).up (by omega) (Nat.le_refl _)
 have HF5 : Hid (RowB wc (eg + 1) L3 2 SgL.cs ⟨A3, q3, fnRow m N⟩) := HF4.out.up (Nat.le_refl _) (by omega)
 have HS5 : Hid (RowB wc (eg + 1) L3 2 SgL.cs ⟨A1, q1, m.sigs.l⟩) := HS4.out.up (Nat.le_refl _) (by omega)
 have HL3 := hide hL3
 clear hL3 HOW4 HF4 HS4
 go_upto_block 8 with fail
 go_cut [] (fun wx => ∃ (A5 A6 : Option Addr) (c5 c6 : Nat), Hid (wx.heap[eg]? = some (.cells #[.slice A3 N q3, .slice A1 m.sigs.l.length q1, .slice A4 m.mems.l.length q4, .slice A5 m.gls.l.length c5, .slice A6 m.gls.l.length c6, .bool tb, .slice none 0 0, .slice none 0 0, .slice none 0 0] 48 (0, 0))) ∧ Hid (wx.ownsRow L3 5 1 (.slice A5 m.gls.l.length c5) m.gls.l.length ((m.gls.l.map (fun x => x.t)).flatMap bD)) ∧ Hid (wx.ownsRow L3 4 1 (.slice A6 m.gls.l.length c6) m.gls.l.length ((m.gls.l.map (fun x => x.mu)).flatMap tD)) ∧ Hid (RowB wx (eg + 1) L3 2 SgL.cs ⟨A3, q3, fnRow m N⟩) ∧ Hid (RowB wx (eg + 1) L3 2 SgL.cs ⟨A1, q1, m.sigs.l⟩) ∧ Hid (RowB wx (eg + 1) L3 1 tD ⟨A4, q4, m.mems.l.map (fun x => x.wide)⟩) ∧ Hid (Below eg W wx) ∧ L3 ≤ wx.heap.size)
 case first =>
  as_aux_lemma =>
   go_wp2_with fail
   go_loopw [10] (fun i w1 => ∃ (k : Nat) (gv mv : Value), i = .int .i64 k ∧ k ≤ m.gls.l.length ∧ Hid (w1.heap[eg]? = some (.cells #[.slice A3 N q3, .slice A1 m.sigs.l.length q1, .slice A4 m.mems.l.length q4, gv, mv, .bool tb, .slice none 0 0, .slice none 0 0, .slice none 0 0] 48 (0, 0))) ∧ Hid (w1.ownsRow L3 5 1 gv k (((m.gls.l.take k).map (fun x => x.t)).flatMap bD)) ∧ Hid (w1.ownsRow L3 4 1 mv k (((m.gls.l.take k).map (fun x => x.mu)).flatMap tD)) ∧ Hid (∀ q, gv.ownBlock = some q → mv.ownBlock ≠ some q) ∧ Hid (RowB w1 (eg + 1) L3 2 SgL.cs ⟨A3, q3, fnRow m N⟩) ∧ Hid (RowB w1 (eg + 1) L3 2 SgL.cs ⟨A1, q1, m.sigs.l⟩) ∧ Hid (RowB w1 (eg + 1) L3 1 tD ⟨A4, q4, m.mems.l.map (fun x => x.wide)⟩) ∧ Hid (Below eg W w1) ∧ L3 ≤ w1.heap.size) (fun i _ => m.gls.l.length - (intOf i).toNat)
   case atStart => exact ⟨0, _, _, rfl, by omega, HBK4, own_nil _ _ _ _, own_nil _ _ _ _, (fun q e => by cases e), HF5, HS5, HW5, HBW4, by have := HL3.out; omega⟩
   case round =>
   obtain ⟨k, gv, mv, rfl, hk, hblk, ho, hom, hap, hrf, hrs, hrw, hbw, hLw⟩ := hrel
   obtain ⟨c0, c1, c2, c4, c5, hin, _⟩ := HCL.out _ hbw.out
   by_cases hlt : k < m.gls.l.length
   ·obtain ⟨z, hz⟩ : ∃ z, m.gls.l[k]? = some z := ⟨_, List.getElem?_eq_getElem hlt⟩
    obtain ⟨ad, ha, _, _, _⟩ := hin.gls.at_ (fun _ => rfl) hz
    obtain ⟨L, hL⟩ : ∃ L, wr.heap.size = L := ⟨_, rfl⟩
    have hLs : L ≤ wr.heap.size := by omega
    have hLs2 : wr.heap.size ≤ L := by omega
    have hegL : eg < L := by rw [← hL]; exact blk_lt hblk.out
    have hbL : L3 ≤ L := by omega
    have HSM : Hid (∀ x ∈ (eg :: (gv : Value).ownBlock.toList), x < L ∧ (x = eg ∨ L3 ≤ x)) := fun x hx => by
     rcases List.mem_cons.1 hx with e | e
     ·subst e; exact ⟨hegL, .inl rfl⟩
     ·have e2 := Option.mem_toList.1 e; have := own_ge ho.out x e2; have := own_lt ho.out x e2; exact ⟨by omega, .inr (by omega)⟩
    have HX : Hid (∀ V, OnlyE (eg :: (gv : Value).ownBlock.toList) eg 3 wr V → V.cell? ⟨xg, 5, none⟩ = some (.slice (some ad) m.gls.l.length m.gls.cap) ∧ V.cell? (ad.add (k * 3)) = some (.int .u8 (z.t.toNat : Int))) := fun V hV => by
     have hbV : Below eg wr V := hV.only.below (by omega) (fun x hx => by have := HSM.out x hx; omega)
     obtain ⟨k0V, k1V, k2V, k4V, k5V, hinV, hwV⟩ := HCL.out _ (hbw.out.trans hbV)
     rw [ha] at k5V
     obtain ⟨ad9, ha9, _, q09, qj9⟩ := hinV.gls.at_ (fun _ => rfl) hz
     have e9 : ad9 = ad := by rw [ha] at ha9; injection ha9 with e; exact e.symm
     subst e9
     exact ⟨k5V, q09 _ rfl (by omega)⟩
    have HST := hide (And.intro hblk.out ho.out)
    have hroom : Room k 1 1 := room_of (by omega) (by omega)
    have hk3 : (k : Int) < (m.gls.l.length : Int) := by omega
    rw [ha] at c5
    have HZ := hide hz; have HA := hide ha
    clear hz ha hin hL
    go_upto_region 21 with fail
    refine wp_region_factsD grew_ext (OnlyE.ext (eg :: (gv : Value).ownBlock.toList) eg 3) (fun _ _ h => OnlyE.of_below h) [1, 9, 11] 11 (factsOf [fun yy _ => yy = .pointer (some ⟨eg, 3, none⟩),
     fun yy W => yy = gv ∧ (W.heap[eg]? = some (.cells #[.slice A3 N q3, .slice A1 m.sigs.l.length q1, .slice A4 m.mems.l.length q4, gv, mv, .bool tb, .slice none 0 0, .slice none 0 0, .slice none 0 0] 48 (0, 0)) ∧ W.ownsRow (L3) 5 1 gv (k) (((m.gls.l.take k).map (fun x => x.t)).flatMap bD)) ∧ L ≤ W.heap.size,
     fun yy _ => yy = .pointer (some ⟨xg, 5, none⟩),
     fun yy _ => yy = .slice (some ad) m.gls.l.length m.gls.cap,
     fun yy _ => yy = .int .i64 (k : Int),
     fun yy _ => yy = .pointer (some (ad.add (k * 3))),
     fun yy _ => yy = .pointer (some (ad.add (k * 3))),
     fun yy _ => yy = .int .u8 (z.t.toNat : Int),
     fun yy W => ∃ q : Nat, yy = .slice (some ⟨q, 0, none⟩) 1 1 ∧ L ≤ q ∧ W.heap[q]? = some (.cells #[.int .u8 (z.t.toNat : Int)] 5 (0, 0)),
     fun yy W => ∃ W1 : World, (W1.heap[eg]? = some (.cells #[.slice A3 N q3, .slice A1 m.sigs.l.length q1, .slice A4 m.mems.l.length q4, gv, mv, .bool tb, .slice none 0 0, .slice none 0 0, .slice none 0 0] 48 (0, 0)) ∧ W1.ownsRow (L3) 5 1 gv (k) (((m.gls.l.take k).map (fun x => x.t)).flatMap bD)) ∧ Grows W1 W gv yy ∧ W.ownsRow (L3) 5 1 yy (k + 1) (((m.gls.l.take k).map (fun x => x.t)).flatMap bD ++ [.int .u8 (z.t.toNat : Int)]) ∧ L ≤ W1.heap.size,
     fun yy _ => yy = .pointer (some ⟨eg, 3, none⟩),
     fun _ W => ∃ v9 : Value, (W.heap[eg]? = some (.cells #[.slice A3 N q3, .slice A1 m.sigs.l.length q1, .slice A4 m.mems.l.length q4, v9, mv, .bool tb, .slice none 0 0, .slice none 0 0, .slice none 0 0] 48 (0, 0)) ∧ W.ownsRow (L3) 5 1 v9 (k + 1) (((m.gls.l.take k).map (fun x => x.t)).flatMap bD ++ [.int .u8 (z.t.toNat : Int)])) ∧ LiesL L gv v9]) (by kernel_rfl) (by kernel_rfl) (by kernel_rfl) (by decide) rfl (by decide) (by kernel_rfl) (by intro i v w hd hF; rcases i with _ | _ | _ | _ | _ | _ | _ | _ | _ | _ | _ | _ | i <;> first | exact hF | exact absurd hd (by simp)) ?_ ?_
    ·refine ⟨?_, ?_, ?_, ?_, ?_, ?_, ?_, ?_, ?_, ?_, ?_, ?_, trivial⟩
     ·refine ObD.plain (by decide) rfl fun ρ W hk => ?_
      have o5 : ρ (.tmp 5) = .pointer (some ⟨eg, 0, none⟩) := hk.old 5 (by decide)
      exact OpOut.fieldAddr (x := .tmp 5) rfl o5 (by go_simp) ⟨Below.refl _ _, rfl⟩
     ·refine ObD.first rfl rfl fun ρ W hk hk0 => ?_
      have h0 := (hk.fact 0 109 (by decide) rfl).pure
      have hb9 := (hk0.below.block eg (blk_lt HST.out.1)).trans HST.out.1
      have hw9 := own_only3 (S := []) HST.out.2 (Only.of_below hk0.below) (by simp)
      have y0 := cell_blk hb9 3
      obtain ⟨A9, c9, hv9, _, _⟩ := own_form hw9
      simp at y0
      rw [hv9] at y0
      have HB9 := hide hb9; have HW9 := hide hw9
      have hL9 : L ≤ W.heap.size := by have := hk0.below.size; omega
      clear hb9 hw9
      exact OpOut.load (x := .tmp 109) rfl h0 (by go_simp) ⟨(OnlyE.ext _ _ _).refl _, hv9.symm, ⟨HB9.out, HW9.out⟩, hL9⟩
     ·refine ObD.plain (by decide) rfl fun ρ W hk => ?_
      have o2 : ρ (.tmp 2) = .pointer (some ⟨xg, 0, none⟩) := hk.old 2 (by decide)
      exact OpOut.fieldAddr (x := .tmp 2) rfl o2 (by go_simp) ⟨Below.refl _ _, rfl⟩
     ·refine ObD.plain (by decide) rfl fun ρ W hk => ?_
      have h2 := (hk.fact 2 111 (by decide) rfl).pure
      obtain ⟨e0, e1⟩ := HX.out W hk.below
      exact OpOut.load (x := .tmp 111) rfl h2 (by go_simp) ⟨Below.refl _ _, rfl⟩
     ·refine ObD.plain (by decide) rfl fun ρ W hk => ?_
      have o10 : ρ (.tmp 10) = .int .i64 (k : Int) := hk.old 10 (by decide)
      exact OpOut.move (.tmp 10) rfl ⟨Below.refl _ _, o10⟩
     ·refine ObD.plain (by decide) rfl fun ρ W hk => ?_
      have h3 := (hk.fact 3 112 (by decide) rfl).pure
      have h4 := (hk.fact 4 113 (by decide) rfl).pure
      exact OpOut.indexAddrT (x := .tmp 112) (y := .tmp 113) rfl h3 h4 (by go_simp) ⟨Below.refl _ _, rfl⟩
     ·refine ObD.plain (by decide) rfl fun ρ W hk => ?_
      have h5 := (hk.fact 5 114 (by decide) rfl).pure
      exact OpOut.fieldAddr (x := .tmp 114) rfl h5 (by go_simp) ⟨Below.refl _ _, rfl⟩
     ·refine ObD.plain (by decide) rfl fun ρ W hk => ?_
      have h6 := (hk.fact 6 115 (by decide) rfl).pure
      obtain ⟨e0, e1⟩ := HX.out W hk.below
      exact OpOut.load (x := .tmp 115) rfl h6 (by go_simp) ⟨Below.refl _ _, rfl⟩
     ·refine ObD.plain (by decide) rfl fun ρ W hk => ?_
      have h7 := (hk.fact 7 116 (by decide) rfl).pure
      have hLW : L ≤ W.heap.size := by have := hk.below.only.size; omega
      have hbA : Below W.heap.size W (W.alloc (.cells #[.int .u8 (z.t.toNat : Int)] 5)) := (Below.refl _ _).alloc (Nat.le_refl _) _
      exact OpOut.buildSlice (us := #[(0, .int .u8 (z.t.toNat : Int))]) rfl (by simp [h7]) (by go_simp) ⟨hbA, W.heap.size, rfl, hLW, heap_alloc_new W _⟩
     ·refine ObD.next 0 1 110 rfl rfl rfl rfl fun ρ W hk hw => ?_
      obtain ⟨w6, hw6, e6, hT6, hL6⟩ := hw
      obtain ⟨w7, hw7, q, h7, hq7, hb7⟩ := hk.fact 8 117 (by decide) rfl
      have hTb := (hw6.block eg (blk_lt hT6.1)).trans hT6.1
      have hTo := own_only3 (S := []) hT6.2 (Only.of_below hw6) (by simp)
      have hLW : L ≤ W.heap.size := Nat.le_trans hL6 hw6.size
      have hqW := (hw7.only.block q (blk_lt hb7) (fun hm => by have := HSM.out q hm; omega)).trans hb7
      obtain ⟨v9, w9, hrun, ho9, hg9⟩ := run_append_any (P := Tryz.prog) (w := W) (L3) (ty := 44) eu8_elem gv (k) (((m.gls.l.take k).map (fun x => x.t)).flatMap bD) hTo W.heap.size (some ⟨q, 0, none⟩) 1 1 [.int .u8 (z.t.toNat : Int)] (reads_one hqW rfl) (by simp [Value.oneCell']) hroom (by omega)
      exact OpOut.append rfl e6 h7 hrun ⟨OnlyE.grows hg9 (fun q hq => List.mem_cons_of_mem _ (Option.mem_toList.2 hq)) (fun q hq => by have := own_ge hTo q hq; omega), W, ⟨hTb, hTo⟩, hg9, ho9, hLW⟩
     ·refine ObD.plain (by decide) rfl fun ρ W hk => ?_
      have o5 : ρ (.tmp 5) = .pointer (some ⟨eg, 0, none⟩) := hk.old 5 (by decide)
      exact OpOut.fieldAddr (x := .tmp 5) rfl o5 (by go_simp) ⟨Below.refl _ _, rfl⟩
     ·refine ObD.next 1 9 118 rfl rfl rfl rfl fun ρ W hk hw => ?_
      obtain ⟨w6, hw6, W1, hT1, hg1, ho1, hL1⟩ := hw
      have h10 := (hk.fact 10 119 (by decide) rfl).pure
      obtain ⟨yy, hyy⟩ : ∃ yy, ρ (.tmp 118) = yy := ⟨_, rfl⟩
      rw [hyy] at hg1 ho1
      have hg2 := hg1.trans (Grows.of_below hw6)
      have ho2 := own_only3 (S := []) ho1 (Only.of_below hw6) (by simp)
      have hblk9 := (hg2.only.block eg (blk_lt hT1.1) (fun hm => by have := own_ge hT1.2 eg (by simpa using hm); omega)).trans hT1.1
      have y0 := cell_blk hblk9 3
      have f0 := frozen_blk hblk9 3
      simp at y0
      obtain ⟨A9, c9, hv9, _, _⟩ := own_form ho2
      subst hv9
      obtain ⟨A8, c8, hv8, _, _⟩ := own_form hT1.2
      rw [hv8] at y0
      have hst9 := setCell_blk hblk9 3 (.slice A9 (k + 1) c9)
      have hO9 : OnlyE (eg :: (gv : Value).ownBlock.toList) eg 3 W (W.setCell ⟨eg, 3, none⟩ (.slice A9 (k + 1) c9)) := OnlyE.set (by simp) W _
      have hl9 : LiesL L gv (.slice A9 (k + 1) c9) := by rcases hg2.lies with e | ⟨g, e, hge⟩; exact .inl e; exact .inr ⟨g, e, Nat.le_trans hL1 hge⟩
      have ho3 := own_only3 (S := [eg]) ho2 (Only.setCell W (p := ⟨eg, 3, none⟩) (by simp) (.slice A9 (k + 1) c9)) (fun q hq hm => by have := own_ge ho2 q hq; simp at hm; omega)
      exact OpOut.storeT (x := .tmp 119) (y := .tmp 118) (W' := W.setCell ⟨eg, 3, none⟩ (.slice A9 (k + 1) c9)) rfl h10 hyy (by clear hblk9 hg1 hg2 ho1 ho2 hv8 hst9 hO9 hl9 ho3 hT1; go_simp) ⟨hO9, _, ⟨by simpa using hst9, ho3⟩, hl9⟩
    ·intro vs W2 hb2 hf hl9
     obtain ⟨w6, hw6, g9, hT6, hli6⟩ := hl9
     have HBN := hide ((hw6.block eg (blk_lt hT6.1)).trans hT6.1); have HON := hide (own_only3 (S := []) hT6.2 (Only.of_below hw6) (by simp)); have HLN := hide hli6; have HRN := hide hb2
     clear hf hw6 hT6 hb2 hli6
     simp only [fillL]
     generalize vs 0 = y0, vs 1 = y1, vs 2 = y2, vs 3 = y3, vs 4 = y4, vs 5 = y5, vs 6 = y6, vs 7 = y7, vs 8 = y8, vs 9 = y9, vs 10 = y10, vs 11 = y11
     go_frame
     have hom2 := hide (own_only3 hom.out HRN.out.only (fun q hq hm => by rcases List.mem_cons.1 hm with e | e; (have := own_ge hom.out q hq; omega); exact hap.out q (Option.mem_toList.1 e) hq))
     have hap2 : Hid (∀ q, mv.ownBlock = some q → g9.ownBlock ≠ some q) := fun q hq => HLN.out.apart (fun e => hap.out q e hq) (by have := own_lt hom.out q hq; omega)
     have hbN : Hid (Below eg W W2) := hbw.out.trans (HRN.out.only.below (by omega) (fun x hx => by have := HSM.out x hx; omega))
     have hrfN := hide (hrf.out.onlyE HRN.out (fun x hx => (HSM.out x hx).2))
     have hrsN := hide (hrs.out.onlyE HRN.out (fun x hx => (HSM.out x hx).2))
     have hrwN := hide (hrw.out.onlyE HRN.out (fun x hx => (HSM.out x hx).2))
     have hLN : L3 ≤ W2.heap.size := by have := HRN.out.only.size; omega
     clear HX HSM HST HRN HLN hegL hLs hLs2 hbL hblk ho hom hap hrf hrs hrw hbw hLw c0 c1 c2 c4 c5
     obtain ⟨wr, hwr⟩ : ∃ wr, W2 = wr := ⟨_, rfl⟩
     rw [hwr] at HBN HON hom2 hbN hrfN hrsN hrwN hLN ⊢
     clear hwr
     have hblk := HBN; have ho := hom2; have hog := HON; have hbw := hbN
     obtain ⟨c0, c1, c2, c4, c5, hin, _⟩ := HCL.out _ hbw.out
     rw [HA.out] at c5
     have ha := HA.out; have hz := HZ.out; obtain ⟨_, _, _, _, _⟩ := hin.gls.at_ (fun _ => rfl) hz
     clear HBN hom2 HON hbN
     obtain ⟨L, hL⟩ : ∃ L, wr.heap.size = L := ⟨_, rfl⟩
     have hLs : L ≤ wr.heap.size := by omega
     have hLs2 : wr.heap.size ≤ L := by omega
     have hegL : eg < L := by rw [← hL]; exact blk_lt hblk.out
     have hbL : L3 ≤ L := by omega
     have HSM : Hid (∀ x ∈ (eg :: (mv : Value).ownBlock.toList), x < L ∧ (x = eg ∨ L3 ≤ x)) := fun x hx => by
      rcases List.mem_cons.1 hx with e | e
      ·subst e; exact ⟨hegL, .inl rfl⟩
      ·have e2 := Option.mem_toList.1 e; have := own_ge ho.out x e2; have := own_lt ho.out x e2; exact ⟨by omega, .inr (by omega)⟩
     have HX : Hid (∀ V, OnlyE (eg :: (mv : Value).ownBlock.toList) eg 4 wr V → V.cell? ⟨xg, 5, none⟩ = some (.slice (some ad) m.gls.l.length m.gls.cap) ∧ V.cell? ⟨(ad.add (k * 3)).block, (ad.add (k * 3)).off + 1, none⟩ = some (.bool z.mu)) := fun V hV => by
      have hbV : Below eg wr V := hV.only.below (by omega) (fun x hx => by have := HSM.out x hx; omega)
      obtain ⟨k0V, k1V, k2V, k4V, k5V, hinV, hwV⟩ := HCL.out _ (hbw.out.trans hbV)
      rw [ha] at k5V
      obtain ⟨ad9, ha9, _, q09, qj9⟩ := hinV.gls.at_ (fun _ => rfl) hz
      have e9 : ad9 = ad := by rw [ha] at ha9; injection ha9 with e; exact e.symm
      subst e9
      exact ⟨k5V, qj9 1 (by omega) (by omega) _ rfl⟩
     have HST := hide (And.intro hblk.out ho.out)
     clear ha hz hin hL
     go_upto_region 22 with fail
     refine wp_region_factsD grew_ext (OnlyE.ext (eg :: (mv : Value).ownBlock.toList) eg 4) (fun _ _ h => OnlyE.of_below h) [1, 9, 11] 11 (factsOf [fun yy _ => yy = .pointer (some ⟨eg, 4, none⟩),
      fun yy W => yy = mv ∧ (W.heap[eg]? = some (.cells #[.slice A3 N q3, .slice A1 m.sigs.l.length q1, .slice A4 m.mems.l.length q4, g9, mv, .bool tb, .slice none 0 0, .slice none 0 0, .slice none 0 0] 48 (0, 0)) ∧ W.ownsRow (L3) 4 1 mv (k) (((m.gls.l.take k).map (fun x => x.mu)).flatMap tD)) ∧ L ≤ W.heap.size,
      fun yy _ => yy = .pointer (some ⟨xg, 5, none⟩),
      fun yy _ => yy = .slice (some ad) m.gls.l.length m.gls.cap,
      fun yy _ => yy = .int .i64 (k : Int),
      fun yy _ => yy = .pointer (some (ad.add (k * 3))),
      fun yy _ => yy = .pointer (some ⟨(ad.add (k * 3)).block, (ad.add (k * 3)).off + 1, none⟩),
      fun yy _ => yy = .bool z.mu,
      fun yy W => ∃ q : Nat, yy = .slice (some ⟨q, 0, none⟩) 1 1 ∧ L ≤ q ∧ W.heap[q]? = some (.cells #[.bool z.mu] 4 (0, 0)),
      fun yy W => ∃ W1 : World, (W1.heap[eg]? = some (.cells #[.slice A3 N q3, .slice A1 m.sigs.l.length q1, .slice A4 m.mems.l.length q4, g9, mv, .bool tb, .slice none 0 0, .slice none 0 0, .slice none 0 0] 48 (0, 0)) ∧ W1.ownsRow (L3) 4 1 mv (k) (((m.gls.l.take k).map (fun x => x.mu)).flatMap tD)) ∧ Grows W1 W mv yy ∧ W.ownsRow (L3) 4 1 yy (k + 1) (((m.gls.l.take k).map (fun x => x.mu)).flatMap tD ++ [.bool z.mu]) ∧ L ≤ W1.heap.size,
      fun yy _ => yy = .pointer (some ⟨eg, 4, none⟩),
      fun _ W => ∃ v9 : Value, (W.heap[eg]? = some (.cells #[.slice A3 N q3, .slice A1 m.sigs.l.length q1, .slice A4 m.mems.l.length q4, g9, v9, .bool tb, .slice none 0 0, .slice none 0 0, .slice none 0 0] 48 (0, 0)) ∧ W.ownsRow (L3) 4 1 v9 (k + 1) (((m.gls.l.take k).map (fun x => x.mu)).flatMap tD ++ [.bool z.mu])) ∧ LiesL L mv v9]) (by kernel_rfl) (by kernel_rfl) (by kernel_rfl) (by decide) rfl (by decide) (by kernel_rfl) (by intro i v w hd hF; rcases i with _ | _ | _ | _ | _ | _ | _ | _ | _ | _ | _ | _ | i <;> first | exact hF | exact absurd hd (by simp)) ?_ ?_
     ·refine ⟨?_, ?_, ?_, ?_, ?_, ?_, ?_, ?_, ?_, ?_, ?_, ?_, trivial⟩
      ·refine ObD.plain (by decide) rfl fun ρ W hk => ?_
       have o5 : ρ (.tmp 5) = .pointer (some ⟨eg, 0, none⟩) := hk.old 5 (by decide)
       exact OpOut.fieldAddr (x := .tmp 5) rfl o5 (by go_simp) ⟨Below.refl _ _, rfl⟩
      ·refine ObD.first rfl rfl fun ρ W hk hk0 => ?_
       have h0 := (hk.fact 0 120 (by decide) rfl).pure
       have hb9 := (hk0.below.block eg (blk_lt HST.out.1)).trans HST.out.1
       have hw9 := own_only3 (S := []) HST.out.2 (Only.of_below hk0.below) (by simp)
       have y0 := cell_blk hb9 4
       obtain ⟨A9, c9, hv9, _, _⟩ := own_form hw9
       simp at y0
       rw [hv9] at y0
       have HB9 := hide hb9; have HW9 := hide hw9
       have hL9 : L ≤ W.heap.size := by have := hk0.below.size; omega
       clear hb9 hw9
       exact OpOut.load (x := .tmp 120) rfl h0 (by go_simp) ⟨(OnlyE.ext _ _ _).refl _, hv9.symm, ⟨HB9.out, HW9.out⟩, hL9⟩
      ·refine ObD.plain (by decide) rfl fun ρ W hk => ?_
       have o2 : ρ (.tmp 2) = .pointer (some ⟨xg, 0, none⟩) := hk.old 2 (by decide)
       exact OpOut.fieldAddr (x := .tmp 2) rfl o2 (by go_simp) ⟨Below.refl _ _, rfl⟩
      ·refine ObD.plain (by decide) rfl fun ρ W hk => ?_
       have h2 := (hk.fact 2 122 (by decide) rfl).pure
       obtain ⟨e0, e1⟩ := HX.out W hk.below
       exact OpOut.load (x := .tmp 122) rfl h2 (by go_simp) ⟨Below.refl _ _, rfl⟩
      ·refine ObD.plain (by decide) rfl fun ρ W hk => ?_
       have o10 : ρ (.tmp 10) = .int .i64 (k : Int) := hk.old 10 (by decide)
       exact OpOut.move (.tmp 10) rfl ⟨Below.refl _ _, o10⟩
      ·refine ObD.plain (by decide) rfl fun ρ W hk => ?_
       have h3 := (hk.fact 3 123 (by decide) rfl).pure
       have h4 := (hk.fact 4 124 (by decide) rfl).pure
       exact OpOut.indexAddrT (x := .tmp 123) (y := .tmp 124) rfl h3 h4 (by go_simp) ⟨Below.refl _ _, rfl⟩
      ·refine ObD.plain (by decide) rfl fun ρ W hk => ?_
       have h5 := (hk.fact 5 125 (by decide) rfl).pure
       exact OpOut.fieldAddr (x := .tmp 125) rfl h5 (by go_simp) ⟨Below.refl _ _, rfl⟩
      ·refine ObD.plain (by decide) rfl fun ρ W hk => ?_
       have h6 := (hk.fact 6 126 (by decide) rfl).pure
       obtain ⟨e0, e1⟩ := HX.out W hk.below
       exact OpOut.load (x := .tmp 126) rfl h6 (by go_simp) ⟨Below.refl _ _, rfl⟩
      ·refine ObD.plain (by decide) rfl fun ρ W hk => ?_
       have h7 := (hk.fact 7 127 (by decide) rfl).pure
       have hLW : L ≤ W.heap.size := by have := hk.below.only.size; omega
       have hbA : Below W.heap.size W (W.alloc (.cells #[.bool z.mu] 4)) := (Below.refl _ _).alloc (Nat.le_refl _) _
       exact OpOut.buildSlice (us := #[(0, .bool z.mu)]) rfl (by simp [h7]) (by go_simp) ⟨hbA, W.heap.size, rfl, hLW, heap_alloc_new W _⟩
      ·refine ObD.next 0 1 121 rfl rfl rfl rfl fun ρ W hk hw => ?_
       obtain ⟨w6, hw6, e6, hT6, hL6⟩ := hw
       obtain ⟨w7, hw7, q, h7, hq7, hb7⟩ := hk.fact 8 128 (by decide) rfl
       have hTb := (hw6.block eg (blk_lt hT6.1)).trans hT6.1
       have hTo := own_only3 (S := []) hT6.2 (Only.of_below hw6) (by simp)
       have hLW : L ≤ W.heap.size := Nat.le_trans hL6 hw6.size
       have hqW := (hw7.only.block q (blk_lt hb7) (fun hm => by have := HSM.out q hm; omega)).trans hb7
       obtain ⟨v9, w9, hrun, ho9, hg9⟩ := run_append_any (P := Tryz.prog) (w := W) (L3) (ty := 43) ebool_elem mv (k) (((m.gls.l.take k).map (fun x => x.mu)).flatMap tD) hTo W.heap.size (some ⟨q, 0, none⟩) 1 1 [.bool z.mu] (reads_one hqW rfl) (by simp [Value.oneCell']) hroom (by omega)
       exact OpOut.append rfl e6 h7 hrun ⟨OnlyE.grows hg9 (fun q hq => List.mem_cons_of_mem _ (Option.mem_toList.2 hq)) (fun q hq => by have := own_ge hTo q hq; omega), W, ⟨hTb, hTo⟩, hg9, ho9, hLW⟩
      ·refine ObD.plain (by decide) rfl fun ρ W hk => ?_
       have o5 : ρ (.tmp 5) = .pointer (some ⟨eg, 0, none⟩) := hk.old 5 (by decide)
       exact OpOut.fieldAddr (x := .tmp 5) rfl o5 (by go_simp) ⟨Below.refl _ _, rfl⟩
      ·refine ObD.next 1 9 129 rfl rfl rfl rfl fun ρ W hk hw => ?_
       obtain ⟨w6, hw6, W1, hT1, hg1, ho1, hL1⟩ := hw
       have h10 := (hk.fact 10 130 (by decide) rfl).pure
       obtain ⟨yy, hyy⟩ : ∃ yy, ρ (.tmp 129) = yy := ⟨_, rfl⟩
       rw [hyy] at hg1 ho1
       have hg2 := hg1.trans (Grows.of_below hw6)
       have ho2 := own_only3 (S := []) ho1 (Only.of_below hw6) (by simp)
       have hblk9 := (hg2.only.block eg (blk_lt hT1.1) (fun hm => by have := own_ge hT1.2 eg (by simpa using hm); omega)).trans hT1.1
       have y0 := cell_blk hblk9 4
       have f0 := frozen_blk hblk9 4
       simp at y0
       obtain ⟨A9, c9, hv9, _, _⟩ := own_form ho2
       subst hv9
       obtain ⟨A8, c8, hv8, _, _⟩ := own_form hT1.2
       rw [hv8] at y0
       have hst9 := setCell_blk hblk9 4 (.slice A9 (k + 1) c9)
       have hO9 : OnlyE (eg :: (mv : Value).ownBlock.toList) eg 4 W (W.setCell ⟨eg, 4, none⟩ (.slice A9 (k + 1) c9)) := OnlyE.set (by simp) W _
       have hl9 : LiesL L mv (.slice A9 (k + 1) c9) := by rcases hg2.lies with e | ⟨g, e, hge⟩; exact .inl e; exact .inr ⟨g, e, Nat.le_trans hL1 hge⟩
       have ho3 := own_only3 (S := [eg]) ho2 (Only.setCell W (p := ⟨eg, 4, none⟩) (by simp) (.slice A9 (k + 1) c9)) (fun q hq hm => by have := own_ge ho2 q hq; simp at hm; omega)
       exact OpOut.storeT (x := .tmp 130) (y := .tmp 129) (W' := W.setCell ⟨eg, 4, none⟩ (.slice A9 (k + 1) c9)) rfl h10 hyy (by clear hblk9 hg1 hg2 ho1 ho2 hv8 hst9 hO9 hl9 ho3 hT1; go_simp) ⟨hO9, _, ⟨by simpa using hst9, ho3⟩, hl9⟩
     ·intro vs W2 hb2 hf hl9
      obtain ⟨w6, hw6, m9, hT6, hli6⟩ := hl9
      have HBN := hide ((hw6.block eg (blk_lt hT6.1)).trans hT6.1); have HON := hide (own_only3 (S := []) hT6.2 (Only.of_below hw6) (by simp)); have HLN := hide hli6; have HRN := hide hb2
      clear hf hw6 hT6 hb2 hli6
      simp only [fillL]
      generalize vs 0 = y0, vs 1 = y1, vs 2 = y2, vs 3 = y3, vs 4 = y4, vs 5 = y5, vs 6 = y6, vs 7 = y7, vs 8 = y8, vs 9 = y9, vs 10 = y10, vs 11 = y11
      go_frame
      have hog2 := hide (own_only3 hog.out HRN.out.only (fun q hq hm => by rcases List.mem_cons.1 hm with e | e; (have := own_ge hog.out q hq; omega); exact hap2.out q (Option.mem_toList.1 e) hq))
      have hap3 : Hid (∀ q, g9.ownBlock = some q → m9.ownBlock ≠ some q) := fun q hq => HLN.out.apart (fun e => hap2.out q e hq) (by have := own_lt hog.out q hq; omega)
      have hbN : Hid (Below eg W W2) := hbw.out.trans (HRN.out.only.below (by omega) (fun x hx => by have := HSM.out x hx; omega))
      have r1 := hide (hrfN.out.onlyE HRN.out (fun x hx => (HSM.out x hx).2))
      have r2 := hide (hrsN.out.onlyE HRN.out (fun x hx => (HSM.out x hx).2))
      have r3 := hide (hrwN.out.onlyE HRN.out (fun x hx => (HSM.out x hx).2))
      have hLN2 : L3 ≤ W2.heap.size := by have := HRN.out.only.size; omega
      clear HX c0 c1 c2 c4 c5
      go_wp2_with fail
      go_roundw
      case rel => exact ⟨k + 1, g9, m9, by go_num, by omega, HBN, (by rw [List.map_take, flat_take bD (show (m.gls.l.map (fun x => x.t))[k]? = some z.t by simp [HZ.out]), ← List.map_take]; exact hog2), (by rw [List.map_take, flat_take tD (show (m.gls.l.map (fun x => x.mu))[k]? = some z.mu by simp [HZ.out]), ← List.map_take]; exact HON), hap3, r1, r2, r3, hbN, hLN2⟩
      case measure => simp [intOf] <;> omega
   ·have hkn : k = m.gls.l.length := by omega
    have hlt3 : (m.gls.l.length : Int) ≤ (k : Int) := by omega
    have HO9 := ho; have HO8 := hom
    rw [hkn, List.take_length] at HO9 HO8
    obtain ⟨A5, q5, hgv, _, _⟩ := own_form HO9.out
    obtain ⟨A6, q6, hmv, _, _⟩ := own_form HO8.out
    subst hgv hmv
    clear hlt ho hom
    go_wp2_with fail
    go_meet
    exact ⟨A5, A6, q5, q6, hblk, HO9, HO8, hrf, hrs, hrw, hbw, hLw⟩
 case rest =>
 clear HBK4 HF5 HS5 HW5 HBW4 hLw4
 obtain ⟨A5, A6, q5, q6, HBK6, HOW5, HOW6, HF6, HS6, HW6, HBW6, hLw6⟩ := hcut
 obtain ⟨L4, hL4⟩ : ∃ L4, wc.heap.size = L4 := ⟨_, rfl⟩
 have hegL4 : eg < L4 := by omega
 have HG7 : Hid (RowB wc (eg + 1) L4 1 bD ⟨A5, q5, m.gls.l.map (fun x => x.t)⟩) := (RowB.of HOW5.out (by simp) (by omega)).up (by omega) (Nat.le_refl _)
 have HU7 : Hid (RowB wc (eg + 1) L4 1 tD ⟨A6, q6, m.gls.l.map (fun x => x.mu)⟩) := (RowB.of HOW6.out (by simp) (by omega)).up (by omega) (Nat.le_refl _)
 have HF7 := hide (HF6.out.up (Nat.le_refl _) (show L3 ≤ L4 by omega)); have HS7 := hide (HS6.out.up (Nat.le_refl _) (show L3 ≤ L4 by omega)); have HW7 := hide (HW6.out.up (Nat.le_refl _) (show L3 ≤ L4 by omega))
 obtain ⟨c0, c1, c2, c4, c5, hin, _⟩ := HCL.out _ HBW6.out
 obtain ⟨ad, ha, hal, k0, kj⟩ := hin.funcs.at_ (fun _ => rfl) hy
 have hfl := lt_some hy
 obtain ⟨n, s, hn, hsn, hso⟩ := fit_num hu.out (f := m.imps.l.length + f) (by omega)
 have hzs : y.sig = (n : Int) := by rw [← hn]; unfold sigN; rw [show m.g.imps = m.imps.l from rfl, if_neg (by omega), Nat.add_sub_cancel_left, show m.g.funcs.getD f noFu = y.g from getD_some (by simp [MoL.g, hy])]; rfl
 obtain ⟨asg, has, hasl, p0, pj⟩ := HS7.out.row.at_ (fun _ => rfl) hsn
 have has1 : A1 = some asg := has
 have hsm := List.mem_of_getElem? hsn
 have u0 : wc.cell? (ad.add (f * 3)) = some (.int .i64 (n : Int)) := by rw [← hzs]; exact k0 _ rfl (by omega)
 have u1 : wc.cell? ⟨(ad.add (f * 3)).block, (ad.add (f * 3)).off + 1, none⟩ = some (.slice y.bd.loc.at_ y.bd.loc.l.length y.bd.loc.cap) := kj 1 (by omega) (by omega) _ rfl
 have u2 : wc.cell? (asg.add (n * 2)) = some (.slice s.p.at_ s.p.l.length s.p.cap) := p0 _ rfl (by omega)
 have u3 : wc.cell? ⟨(asg.add (n * 2)).block, (asg.add (n * 2)).off + 1, none⟩ = some (.slice s.r.at_ s.r.l.length s.r.cap) := pj 1 (by omega) (by omega) _ rfl
 have e1 := cell_blk HBK6.out 1
 simp at e1
 rw [has1] at e1
 have y6 := cell_blk HBK6.out 6; have y7 := cell_blk HBK6.out 7; have f6 := frozen_blk HBK6.out 6; have f7 := frozen_blk HBK6.out 7
 simp at y6 y7
 have hk3 : (f : Int) < (m.funcs.l.length : Int) := by omega
 have hn3 : (n : Int) < (m.sigs.l.length : Int) := by have := lt_some hsn; omega
 have hn4 : n ≤ 1000 := by have := lt_some hsn; omega
 have hf4 : f ≤ 1000 := by omega
 have HAD := hide ha; have HY := hide hy; have HSO := hide hso; have HSM2 := hide hsm; have HIN6 := hide hin
 rw [ha] at c2
 obtain ⟨W8, hW8, hO8, hx8⟩ : ∃ W8, (wc.setCell ⟨eg, 6, none⟩ (.slice s.p.at_ s.p.l.length s.p.cap)).setCell ⟨eg, 7, none⟩ (.slice s.r.at_ s.r.l.length s.r.cap) = W8 ∧ OnlyE [eg] eg 6 wc wc ∧ W8.heap[eg]? = some (.cells #[.slice A3 N q3, .slice A1 m.sigs.l.length q1, .slice A4 m.mems.l.length q4, .slice A5 m.gls.l.length q5, .slice A6 m.gls.l.length q6, .bool tb, .slice s.p.at_ s.p.l.length s.p.cap, .slice s.r.at_ s.r.l.length s.r.cap, .slice none 0 0] 48 (0, 0)) := ⟨_, rfl, (OnlyE.ext _ _ _).refl _, by simpa using setCell_blk (setCell_blk HBK6.out 6 (.slice s.p.at_ s.p.l.length s.p.cap)) 7 (.slice s.r.at_ s.r.l.length s.r.cap)⟩
 have hon8 : Only [eg] wc W8 := by rw [← hW8]; exact (Only.setCell wc (p := ⟨eg, 6, none⟩) (by simp) _).trans (Only.setCell _ (p := ⟨eg, 7, none⟩) (by simp) _)
 have HW8 := hide hW8; have HX8 := hide hx8; have HON8 := hide hon8; have HL4 := hide hL4
 clear hW8 hO8 hx8 hon8 hin k0 kj ha hy hn hsn hso hzs has has1 p0 pj hsm HOW5 HOW6 HF6 HS6 HW6 hL4 hasl hal
 go_upto_region 23 with fail
 go_region
 rw [HW8.out]
 obtain ⟨wr, hwr⟩ : ∃ wr, W8.drew = wr := ⟨_, rfl⟩
 have hblk : Hid (wr.heap[eg]? = some (.cells #[.slice A3 N q3, .slice A1 m.sigs.l.length q1, .slice A4 m.mems.l.length q4, .slice A5 m.gls.l.length q5, .slice A6 m.gls.l.length q6, .bool tb, .slice s.p.at_ s.p.l.length s.p.cap, .slice s.r.at_ s.r.l.length s.r.cap, .slice none 0 0] 48 (0, 0))) := by rw [← hwr]; exact HX8.out
 have hon : Hid (Only [eg] wc wr) := by rw [← hwr]; exact HON8.out.trans (Only.drew _ _)
 rw [hwr]
 clear hwr HX8 HON8 HBK6 HW8 e1 y6 y7 f6 f7 c0 c1 c2 c4 c5 u0 u2 u3
 have hsz := hon.out.size; have hL4s := HL4.out
 have hbw : Hid (Below eg W wr) := HBW6.out.trans (hon.out.below (by omega) (by simp))
 obtain ⟨L, hL⟩ : ∃ L, wr.heap.size = L := ⟨_, rfl⟩
 have hLs : L ≤ wr.heap.size := by omega
 have hegL : eg < L := by omega
 have h4L : L4 ≤ L := by omega
 have HLL := hide hL
 clear hL hL4s
 have HBE : Hid (∀ V, LowE L eg 8 wr V → Below eg W V) := fun V hV => hbw.out.trans ⟨hV.os, hV.tape, hV.output, hV.size, fun i hi => hV.block i (by omega) (by omega) (by omega)⟩
 have HX : Hid (∀ V, LowE L eg 8 wr V → V.cell? ⟨eg, 6, none⟩ = some (.slice s.p.at_ s.p.l.length s.p.cap) ∧ V.cell? ⟨xg, 2, none⟩ = some (.slice (some ad) m.funcs.l.length m.funcs.cap) ∧ V.cell? ⟨(ad.add (f * 3)).block, (ad.add (f * 3)).off + 1, none⟩ = some (.slice y.bd.loc.at_ y.bd.loc.l.length y.bd.loc.cap) ∧ Row V 1 bD s.p ∧ Row V 1 bD y.bd.loc) := fun V hV => by
  obtain ⟨k0V, k1V, k2V, k4V, k5V, hinV, hwV⟩ := HCL.out _ (HBE.out V hV)
  have h6 := (hV.cell 6 (by omega) (by omega)).trans (cell_blk hblk.out 6)
  simp at h6
  rw [HAD.out] at k2V
  obtain ⟨ad9, ha9, _, q09, qj9⟩ := hinV.funcs.at_ (fun _ => rfl) HY.out
  have e9 : ad9 = ad := by have h9 := HAD.out; rw [h9] at ha9; injection ha9 with e; exact e.symm
  subst e9
  exact ⟨h6, k2V, qj9 1 (by omega) (by omega) _ rfl, (hinV.sig s HSM2.out).1, (hinV.func y (List.mem_of_getElem? HY.out)).2.loc⟩
 have hpl := hs.out.sig s HSM2.out
 have hbl := (hs.out.func y (List.mem_of_getElem? HY.out)).loc
 have hroom1 : Room 0 s.p.l.length 1 := room_of (by omega) (by omega)
 have hroom2 : Room s.p.l.length y.bd.loc.l.length 1 := room_of (by omega) (by omega)
 go_upto_region 24 with fail
 refine wp_region_factsD grew_ext (LowE.ext L eg 8) (fun _ _ h => LowE.of_below h) [0, 4, 12, 14] 14 (factsOf [fun yy W => ∃ q : Nat, yy = .slice (some ⟨q, 0, none⟩) 0 0 ∧ L ≤ q ∧ W.heap[q]? = some (.cells #[] 5 (0, 0)) ∧ W.heap[eg]? = some (.cells #[.slice A3 N q3, .slice A1 m.sigs.l.length q1, .slice A4 m.mems.l.length q4, .slice A5 m.gls.l.length q5, .slice A6 m.gls.l.length q6, .bool tb, .slice s.p.at_ s.p.l.length s.p.cap, .slice s.r.at_ s.r.l.length s.r.cap, .slice none 0 0] 48 (0, 0)),
  fun yy _ => yy = .pointer (some ⟨eg, 6, none⟩),
  fun yy _ => yy = .pointer (some ⟨eg, 6, none⟩),
  fun yy _ => yy = .slice s.p.at_ s.p.l.length s.p.cap,
  fun yy W => W.ownsRow L 5 1 yy s.p.l.length (s.p.l.flatMap bD) ∧ L ≤ W.heap.size ∧ W.heap[eg]? = some (.cells #[.slice A3 N q3, .slice A1 m.sigs.l.length q1, .slice A4 m.mems.l.length q4, .slice A5 m.gls.l.length q5, .slice A6 m.gls.l.length q6, .bool tb, .slice s.p.at_ s.p.l.length s.p.cap, .slice s.r.at_ s.r.l.length s.r.cap, .slice none 0 0] 48 (0, 0)),
  fun yy _ => yy = .pointer (some ⟨xg, 2, none⟩),
  fun yy _ => yy = .slice (some ad) m.funcs.l.length m.funcs.cap,
  fun yy _ => yy = .int .i64 (f : Int),
  fun yy _ => yy = .pointer (some (ad.add (f * 3))),
  fun yy _ => yy = .pointer (some ⟨(ad.add (f * 3)).block, (ad.add (f * 3)).off + 1, none⟩),
  fun yy _ => yy = .pointer (some ⟨(ad.add (f * 3)).block, (ad.add (f * 3)).off + 1, none⟩),
  fun yy _ => yy = .slice y.bd.loc.at_ y.bd.loc.l.length y.bd.loc.cap,
  fun yy W => W.ownsRow L 5 1 yy (s.p.l.length + y.bd.loc.l.length) (s.p.l.flatMap bD ++ y.bd.loc.l.flatMap bD) ∧ W.heap[eg]? = some (.cells #[.slice A3 N q3, .slice A1 m.sigs.l.length q1, .slice A4 m.mems.l.length q4, .slice A5 m.gls.l.length q5, .slice A6 m.gls.l.length q6, .bool tb, .slice s.p.at_ s.p.l.length s.p.cap, .slice s.r.at_ s.r.l.length s.r.cap, .slice none 0 0] 48 (0, 0)),
  fun yy _ => yy = .pointer (some ⟨eg, 8, none⟩),
  fun _ W => ∃ (A7 : Option Addr) (q7 : Nat), W.heap[eg]? = some (.cells #[.slice A3 N q3, .slice A1 m.sigs.l.length q1, .slice A4 m.mems.l.length q4, .slice A5 m.gls.l.length q5, .slice A6 m.gls.l.length q6, .bool tb, .slice s.p.at_ s.p.l.length s.p.cap, .slice s.r.at_ s.r.l.length s.r.cap, .slice A7 (s.p.l.length + y.bd.loc.l.length) q7] 48 (0, 0)) ∧ W.ownsRow L 5 1 (.slice A7 (s.p.l.length + y.bd.loc.l.length) q7) (s.p.l.length + y.bd.loc.l.length) (s.p.l.flatMap bD ++ y.bd.loc.l.flatMap bD)]) (by kernel_rfl) (by kernel_rfl) (by kernel_rfl) (by decide) rfl (by decide) (by kernel_rfl) (by intro i v w hd hF; rcases i with _ | _ | _ | _ | _ | _ | _ | _ | _ | _ | _ | _ | _ | _ | _ | i <;> first | exact hF | exact absurd hd (by simp)) ?_ ?_
 ·refine ⟨?_, ?_, ?_, ?_, ?_, ?_, ?_, ?_, ?_, ?_, ?_, ?_, ?_, ?_, ?_, trivial⟩
  ·refine ObD.first rfl rfl fun ρ W hk hk0 => ?_
   have hLW : L ≤ W.heap.size := Nat.le_trans hLs hk.below.size
   have hbk := (hk0.below.block eg (by omega)).trans hblk.out
   have hbA : Below W.heap.size W (W.alloc (.cells #[] 5)) := (Below.refl _ _).alloc (Nat.le_refl _) _
   exact OpOut.buildSlice (us := #[]) rfl (by simp) (by go_simp) ⟨LowE.of_below hbA, W.heap.size, rfl, hLW, heap_alloc_new W _, (hbA.block eg (blk_lt hbk)).trans hbk⟩
  ·refine ObD.plain (by decide) rfl fun ρ W hk => ?_
   have o5 : ρ (.tmp 5) = .pointer (some ⟨eg, 0, none⟩) := hk.old 5 (by decide)
   exact OpOut.fieldAddr (x := .tmp 5) rfl o5 (by go_simp) ⟨Below.refl _ _, rfl⟩
  ·refine ObD.plain (by decide) rfl fun ρ W hk => ?_
   have h1 := (hk.fact 1 143 (by decide) rfl).pure
   exact OpOut.fieldAddr (x := .tmp 143) rfl h1 (by go_simp) ⟨Below.refl _ _, rfl⟩
  ·refine ObD.plain (by decide) rfl fun ρ W hk => ?_
   have h2 := (hk.fact 2 144 (by decide) rfl).pure
   obtain ⟨e0, e1, e2, e3, e4⟩ := HX.out W hk.below
   exact OpOut.load (x := .tmp 144) rfl h2 (by go_simp) ⟨Below.refl _ _, rfl⟩
  ·refine ObD.next 0 0 142 rfl rfl rfl rfl fun ρ W hk hw => ?_
   obtain ⟨w6, hw6, q, h0, hq, hqb, hbk6⟩ := hw
   have hbk := (hw6.block eg (blk_lt hbk6)).trans hbk6
   have h3 := (hk.fact 3 145 (by decide) rfl).pure
   obtain ⟨_, _, _, e3, _⟩ := HX.out W hk.below
   have hLW : L ≤ W.heap.size := Nat.le_trans hLs hk.below.size
   have hqW := (hw6.block q (blk_lt hqb)).trans hqb
   obtain ⟨v9, w9, hrun, ho9, hb9⟩ := append_fresh (P := Tryz.prog) (w := W) (ty := 44) eu8_elem q L hq hqW W.heap.size s.p.at_ s.p.l.length s.p.cap (s.p.l.flatMap bD) e3.r (by intro u hu; obtain ⟨b, _, hb⟩ := List.mem_flatMap.1 hu; simp [bD] at hb; subst hb; rfl) hroom1 hLW
   exact OpOut.append rfl h0 h3 hrun ⟨LowE.of_below hb9, ho9, Nat.le_trans hLW hb9.size, (hb9.block eg (blk_lt hbk)).trans hbk⟩
  ·refine ObD.plain (by decide) rfl fun ρ W hk => ?_
   have o2 : ρ (.tmp 2) = .pointer (some ⟨xg, 0, none⟩) := hk.old 2 (by decide)
   exact OpOut.fieldAddr (x := .tmp 2) rfl o2 (by go_simp) ⟨Below.refl _ _, rfl⟩
  ·refine ObD.plain (by decide) rfl fun ρ W hk => ?_
   have h5 := (hk.fact 5 147 (by decide) rfl).pure
   obtain ⟨e0, e1, e2, e3, e4⟩ := HX.out W hk.below
   exact OpOut.load (x := .tmp 147) rfl h5 (by go_simp) ⟨Below.refl _ _, rfl⟩
  ·refine ObD.plain (by decide) rfl fun ρ W hk => ?_
   exact OpOut.move (.tmp 1) rfl ⟨Below.refl _ _, hk.old 1 (by decide)⟩
  ·refine ObD.plain (by decide) rfl fun ρ W hk => ?_
   have h6 := (hk.fact 6 148 (by decide) rfl).pure
   have h7 := (hk.fact 7 149 (by decide) rfl).pure
   exact OpOut.indexAddrT (x := .tmp 148) (y := .tmp 149) rfl h6 h7 (by go_simp) ⟨Below.refl _ _, rfl⟩
  ·refine ObD.plain (by decide) rfl fun ρ W hk => ?_
   have h8 := (hk.fact 8 150 (by decide) rfl).pure
   exact OpOut.fieldAddr (x := .tmp 150) rfl h8 (by go_simp) ⟨Below.refl _ _, rfl⟩
  ·refine ObD.plain (by decide) rfl fun ρ W hk => ?_
   have h9 := (hk.fact 9 151 (by decide) rfl).pure
   exact OpOut.fieldAddr (x := .tmp 151) rfl h9 (by go_simp) ⟨Below.refl _ _, rfl⟩
  ·refine ObD.plain (by decide) rfl fun ρ W hk => ?_
   have h10 := (hk.fact 10 152 (by decide) rfl).pure
   obtain ⟨e0, e1, e2, e3, e4⟩ := HX.out W hk.below
   exact OpOut.load (x := .tmp 152) rfl h10 (by go_simp) ⟨Below.refl _ _, rfl⟩
  ·refine ObD.next 1 4 146 rfl rfl rfl rfl fun ρ W hk hw => ?_
   obtain ⟨w6, hw6, ho6, hL6, hbk6⟩ := hw
   have hbk := (hw6.block eg (blk_lt hbk6)).trans hbk6
   have h11 := (hk.fact 11 153 (by decide) rfl).pure
   obtain ⟨_, _, _, _, e4⟩ := HX.out W hk.below
   have hLW : L ≤ W.heap.size := Nat.le_trans hL6 hw6.size
   have hoW := own_only3 (S := []) ho6 (Only.of_below hw6) (by simp)
   obtain ⟨yv, hyv⟩ : ∃ yv, ρ (.tmp 146) = yv := ⟨_, rfl⟩
   rw [hyv] at hoW
   obtain ⟨v9, w9, hrun, ho9, hg9⟩ := run_append_any (P := Tryz.prog) (w := W) L (ty := 44) eu8_elem yv s.p.l.length (s.p.l.flatMap bD) hoW W.heap.size y.bd.loc.at_ y.bd.loc.l.length y.bd.loc.cap (y.bd.loc.l.flatMap bD) e4.r (by intro u hu; obtain ⟨b, _, hb⟩ := List.mem_flatMap.1 hu; simp [bD] at hb; subst hb; rfl) hroom2 hLW
   exact OpOut.append rfl hyv h11 hrun ⟨LowE.grows hg9 (fun q hq => by have := own_ge hoW q hq; omega), ho9, (hg9.only.block eg (blk_lt hbk) (fun hm => by have := own_ge hoW eg (by simpa using hm); omega)).trans hbk⟩
  ·refine ObD.plain (by decide) rfl fun ρ W hk => ?_
   have o5 : ρ (.tmp 5) = .pointer (some ⟨eg, 0, none⟩) := hk.old 5 (by decide)
   exact OpOut.fieldAddr (x := .tmp 5) rfl o5 (by go_simp) ⟨Below.refl _ _, rfl⟩
  ·refine ObD.next 2 12 154 rfl rfl rfl rfl fun ρ W hk hw => ?_
   obtain ⟨w6, hw6, ho6, hbk6⟩ := hw
   have h13 := (hk.fact 13 155 (by decide) rfl).pure
   have hbk := (hw6.block eg (blk_lt hbk6)).trans hbk6
   have hoW := own_only3 (S := []) ho6 (Only.of_below hw6) (by simp)
   obtain ⟨yv, hyv⟩ : ∃ yv, ρ (.tmp 154) = yv := ⟨_, rfl⟩
   rw [hyv] at hoW
   obtain ⟨A9, c9, hv9, _, _⟩ := own_form hoW
   subst hv9
   have y8 := cell_blk hbk 8
   have f8 := frozen_blk hbk 8
   simp at y8
   have hst := setCell_blk hbk 8 (.slice A9 (s.p.l.length + y.bd.loc.l.length) c9)
   have ho3 := own_only3 (S := [eg]) hoW (Only.setCell W (p := ⟨eg, 8, none⟩) (by simp) (.slice A9 (s.p.l.length + y.bd.loc.l.length) c9)) (fun q hq hm => by have := own_ge hoW q hq; simp at hm; omega)
   exact OpOut.storeT (x := .tmp 155) (y := .tmp 154) (W' := W.setCell ⟨eg, 8, none⟩ (.slice A9 (s.p.l.length + y.bd.loc.l.length) c9)) rfl h13 hyv (by clear hbk hbk6 hst ho3 hoW ho6; go_simp) ⟨LowE.set W _, A9, c9, by simpa using hst, ho3⟩
 ·intro vs W2 hb2 hf hl9
  obtain ⟨w6, hw6, A7, q7, hbk6, ho6⟩ := hl9
  have HBK := hide ((hw6.block eg (blk_lt hbk6)).trans hbk6); have HOL := hide (own_only3 (S := []) ho6 (Only.of_below hw6) (by simp)); have HLO := hide hb2
  clear hf hw6 hbk6 ho6 hb2 HX
  simp only [fillL]
  generalize vs 0 = y0, vs 1 = y1, vs 2 = y2, vs 3 = y3, vs 4 = y4, vs 5 = y5, vs 6 = y6, vs 7 = y7, vs 8 = y8, vs 9 = y9, vs 10 = y10, vs 11 = y11, vs 12 = y12, vs 13 = y13, vs 14 = y14
  go_frame
  have d0 := cell_blk HBK.out 0
  have d1 := cell_blk HBK.out 1
  have d2 := cell_blk HBK.out 2
  have d3 := cell_blk HBK.out 3
  have d4 := cell_blk HBK.out 4
  have d5 := cell_blk HBK.out 5
  have d6 := cell_blk HBK.out 6
  have d7 := cell_blk HBK.out 7
  have d8 := cell_blk HBK.out 8
  simp at d0 d1 d2 d3 d4 d5 d6 d7 d8
  have hx2 : W2.heap[xg + 1]? = some (.cells #[.slice none 0 0, .slice none 0 0, .slice none 0 0, .slice none 0 0, .slice none 0 0, .bool false, .slice none 0 0, .slice none 0 0, .slice none 0 0] 48 (0, 0)) := ((HBE.out W2 HLO.out).block (xg + 1) (by have := HEG.out; omega)).trans HX2.out
  have r0 := cell_blk hx2 0; have f0 := frozen_blk hx2 0
  have r1 := cell_blk hx2 1; have f1 := frozen_blk hx2 1
  have r2 := cell_blk hx2 2; have f2 := frozen_blk hx2 2
  have r3 := cell_blk hx2 3; have f3 := frozen_blk hx2 3
  have r4 := cell_blk hx2 4; have f4 := frozen_blk hx2 4
  have r5 := cell_blk hx2 5; have f5 := frozen_blk hx2 5
  have r6 := cell_blk hx2 6; have f6 := frozen_blk hx2 6
  have r7 := cell_blk hx2 7; have f7 := frozen_blk hx2 7
  have r8 := cell_blk hx2 8; have f8 := frozen_blk hx2 8
  simp at r0 r1 r2 r3 r4 r5 r6 r7 r8
  obtain ⟨WE, hWE⟩ : ∃ WE, (((((((((W2.setCell ⟨xg + 1, 0, none⟩ (.slice A3 N q3)).setCell ⟨xg + 1, 1, none⟩ (.slice A1 m.sigs.l.length q1)).setCell ⟨xg + 1, 2, none⟩ (.slice A4 m.mems.l.length q4)).setCell ⟨xg + 1, 3, none⟩ (.slice A5 m.gls.l.length q5)).setCell ⟨xg + 1, 4, none⟩ (.slice A6 m.gls.l.length q6)).setCell ⟨xg + 1, 5, none⟩ (.bool tb)).setCell ⟨xg + 1, 6, none⟩ (.slice s.p.at_ s.p.l.length s.p.cap)).setCell ⟨xg + 1, 7, none⟩ (.slice s.r.at_ s.r.l.length s.r.cap)).setCell ⟨xg + 1, 8, none⟩ (.slice A7 (s.p.l.length + y.bd.loc.l.length) q7)) = WE := ⟨_, rfl⟩
  have hBE : WE.heap[xg + 1]? = some (.cells #[.slice A3 N q3, .slice A1 m.sigs.l.length q1, .slice A4 m.mems.l.length q4, .slice A5 m.gls.l.length q5, .slice A6 m.gls.l.length q6, .bool tb, .slice s.p.at_ s.p.l.length s.p.cap, .slice s.r.at_ s.r.l.length s.r.cap, .slice A7 (s.p.l.length + y.bd.loc.l.length) q7] 48 (0, 0)) := by rw [← hWE]; simpa using (setCell_blk (setCell_blk (setCell_blk (setCell_blk (setCell_blk (setCell_blk (setCell_blk (setCell_blk (setCell_blk hx2 0 (.slice A3 N q3)) 1 (.slice A1 m.sigs.l.length q1)) 2 (.slice A4 m.mems.l.length q4)) 3 (.slice A5 m.gls.l.length q5)) 4 (.slice A6 m.gls.l.length q6)) 5 (.bool tb)) 6 (.slice s.p.at_ s.p.l.length s.p.cap)) 7 (.slice s.r.at_ s.r.l.length s.r.cap)) 8 (.slice A7 (s.p.l.length + y.bd.loc.l.length) q7))
  have hOE : Only [xg + 1] W2 WE := by rw [← hWE]; exact ((((((((Only.setCell W2 (p := ⟨xg + 1, 0, none⟩) (by simp) _).trans (Only.setCell _ (p := ⟨xg + 1, 1, none⟩) (by simp) _)).trans (Only.setCell _ (p := ⟨xg + 1, 2, none⟩) (by simp) _)).trans (Only.setCell _ (p := ⟨xg + 1, 3, none⟩) (by simp) _)).trans (Only.setCell _ (p := ⟨xg + 1, 4, none⟩) (by simp) _)).trans (Only.setCell _ (p := ⟨xg + 1, 5, none⟩) (by simp) _)).trans (Only.setCell _ (p := ⟨xg + 1, 6, none⟩) (by simp) _)).trans (Only.setCell _ (p := ⟨xg + 1, 7, none⟩) (by simp) _)).trans (Only.setCell _ (p := ⟨xg + 1, 8, none⟩) (by simp) _)
  have HWE := hide hWE; have HBE2 := hide hBE; have HOE := hide hOE
  clear hWE hBE hOE hx2
  go_wp2_with fail
  rw [HWE.out]
  clear d0 r0 f0 d1 r1 f1 d2 r2 f2 d3 r3 f3 d4 r4 f4 d5 r5 f5 d6 r6 f6 d7 r7 f7 d8 r8 f8
  have t0 := cell_blk HBE2.out 0
  have t1 := cell_blk HBE2.out 1
  have t2 := cell_blk HBE2.out 2
  have t3 := cell_blk HBE2.out 3
  have t4 := cell_blk HBE2.out 4
  have t5 := cell_blk HBE2.out 5
  have t6 := cell_blk HBE2.out 6
  have t7 := cell_blk HBE2.out 7
  have t8 := cell_blk HBE2.out 8
  simp at t0 t1 t2 t3 t4 t5 t6 t7 t8
  refine bodyPost_ret (v := .agg #[.slice A3 N q3, .slice A1 m.sigs.l.length q1, .slice A4 m.mems.l.length q4, .slice A5 m.gls.l.length q5, .slice A6 m.gls.l.length q6, .bool tb, .slice s.p.at_ s.p.l.length s.p.cap, .slice s.r.at_ s.r.l.length s.r.cap, .slice A7 (s.p.l.length + y.bd.loc.l.length) q7]) (by simp [results, Tryz.results13, go_sem, t0, t1, t2, t3, t4, t5, t6, t7, t8]) rfl ?_
  have hWW : Below (xg + 1) W WE := ((HBE.out W2 HLO.out).mono (by have := HEG.out; omega)).trans (HOE.out.below (by have := (HBE.out W2 HLO.out).size; have := HEG.out; omega) (by simp))
  have hfin : Below w.heap.size w WE := (HCL.out W (Below.refl _ _)).2.2.2.2.2.2.trans (hWW.mono (by have := HXG.out; omega))
  have hmE : MoIn WE m := h.out.below hfin
  have keep : ∀ {α : Type} {size : Nat} {dec : α → List Value} {t : Sl α}, RowB wc (eg + 1) L4 size dec t → Row WE size dec t := fun {α size dec t} hr => by
   have r1 := hr.row.only hon.out (fun ad h1 h2 hm => by have := hr.bd ad h1 h2; simp at hm; omega)
   have r2 := r1.lowE HLO.out (fun ad h1 h2 => by have := hr.bd ad h1 h2; omega)
   exact r2.only HOE.out (fun ad h1 h2 hm => by have := hr.bd ad h1 h2; have := HEG.out; simp at hm; omega)
  have hlc : Row WE 1 bD ⟨A7, q7, s.p.l ++ y.bd.loc.l⟩ := by
   have r1 := RowF.of_own (l := s.p.l ++ y.bd.loc.l) (own_cast HOL.out rfl (by rw [List.flatMap_append])) (by simp)
   exact (r1.only HOE.out (fun ad h1 h2 hm => by have := r1.ge ad h1 h2; have := HEG.out; simp at hm; omega)).row
  refine ⟨⟨⟨A3, q3, fnRow m N⟩, ⟨A1, q1, m.sigs.l⟩, ⟨A4, q4, m.mems.l.map (fun x => x.wide)⟩, ⟨A5, q5, m.gls.l.map (fun x => x.t)⟩, ⟨A6, q6, m.gls.l.map (fun x => x.mu)⟩, tb, s, ⟨A7, q7, s.p.l ++ y.bd.loc.l⟩⟩, ?_, ?_, ?_, hfin⟩
  ·unfold EvL.cs Sl.val
   simp only [fnRow_len, List.length_map, List.length_append]
  ·refine ⟨keep HF7.out, fun x hx => ?_, keep HS7.out, hmE.sig, keep HW7.out, keep HG7.out, keep HU7.out, hmE.sig s HSM2.out, hlc⟩
   obtain ⟨i, hi, rfl⟩ := List.mem_map.1 hx
   obtain ⟨n2, s2, k1, k2, _⟩ := fit_num hu.out (f := i) (by have := List.mem_range.1 hi; have := HN.out; omega)
   have : sgAt m i = s2 := by unfold sgAt; rw [k1, Int.toNat_natCast]; exact getD_some k2
   rw [this]
   exact hmE.sig s2 (List.mem_of_getElem? k2)
  ·refine ⟨by show (fnRow m N).length = _; rw [fnRow_len, HN.out], fun i hi => ?_, rfl, rfl, rfl, rfl, HTB.out.symm, ⟨HSM2.out, HSO.out⟩, rfl⟩
   obtain ⟨n2, s2, k1, k2, k3⟩ := fit_num hu.out (f := i) hi
   have : sgAt m i = s2 := by unfold sgAt; rw [k1, Int.toNat_natCast]; exact getD_some k2
   refine ⟨s2, ?_, List.mem_of_getElem? k2, k3⟩
   show (fnRow m N)[i]? = _
   unfold fnRow
   rw [List.getElem?_map, List.getElem?_range (by have := HN.out; omega)]
   simp [this]
end Go.Proofs.YtcfmbdkhefdgdaaGreat
