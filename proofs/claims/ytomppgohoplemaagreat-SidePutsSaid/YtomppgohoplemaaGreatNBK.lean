import Derived.Test.YtomppgohoplemaaGreatNBB
import Derived.Test.YtomppgohoplemaaGreatNAU
set_option linter.unusedVariables false
namespace Go.Proofs.YtomppgohoplemaaGreat
open Go.RowKit
def tmin (t:Int):Int:=if 0≤t then 1 else 0
def cntV (m:MoL):Value:=.agg #[.int .i64 ((m.imps.l.length+m.funcs.l.length:Nat):Int),.int .i64 (tmin m.table),.int .i64 (m.mems.l.length:Int),.int .i64 (m.gls.l.length:Int)]
set_option maxRecDepth 100000 in
set_option maxHeartbeats 1600000 in
theorem counts_any (g:Nat) (m:MoL) (w:World) (h:Hid (MoAt w g m)) (hz:Hid (MoSz m)) (ht1:-1≤m.table) (ht2:m.table≤1000) :
  Calls Tryz.prog 87 #[.pointer (some ⟨g,0,none⟩)] w fun e w'=>e=.returned (cntV m)∧Hid (Below w.heap.size w w'):=by
 obtain⟨W,hW,hb,hxb,hsz⟩:=box_new w #[.int .i64 0,.int .i64 0,.int .i64 0,.int .i64 0] 184
 have hM:=hide (h.out.below hb)
 have z1:=hz.out.imps;have z2:=hz.out.funcs;have z4:=hz.out.mems;have z5:=hz.out.gls
 obtain⟨_,_,_,c3,c4,c5,_,_,_,_⟩:=hM.out.cells
 have C3:=fun k:ExtW W=>k.cell c3
 have C4:=fun k:ExtW W=>k.cell c4
 have C5:=fun k:ExtW W=>k.cell c5
 have HC:=hide (fun k:ExtW W=>mcount_any g m k.w (hM.out.below k.b) (by omega) (by omega))
 have HB:=hide hb;have HW:=hide hW;have HX:=hide hxb
 clear hb hW hxb hsz c3 c4 c5
 unfold cntV tmin
 generalize m.imps.l.length+m.funcs.l.length=n0 at *
 generalize m.mems.l.length=n2 at *
 generalize m.gls.l.length=n3 at *
 generalize m.table=t at *
 rcases(by omega:t=-1∨t=0∨0<t)with h0|h0|h0
 ·subst h0
  rw[if_neg (by omega)]
  have hm:min (IntKind.i64.wrap 0) 1=0:=by decide
  go_enter Tryz.func87,Tryz.ntmps87
  go_upto_region 1 with fail
  rw[HW.out]
  refine wp_region_ext_last (l:=[_,_,_,_,_,_,_,_,_,_,_,_,_,_,_,_,_,_,_]) (o:=_) (by kernel_rfl) (by kernel_rfl) (by kernel_rfl) (by kernel_rfl) ?_
  repeat (quiet_step (exact ext_call (HC.out _)))
  refine wpQuiet_nil ?_
  intro k
  have hx2:=(k.b.block w.heap.size (blk_lt HX.out)).trans HX.out
  have e0:=cell_blk hx2 0
  have e1:=cell_blk hx2 1
  have e2:=cell_blk hx2 2
  have e3:=cell_blk hx2 3
  have y0:=frozen_blk hx2 0
  have y1:=frozen_blk hx2 1
  have y2:=frozen_blk hx2 2
  have y3:=frozen_blk hx2 3
  simp at e0 e1 e2 e3
  have h4:=setCell_blk (setCell_blk (setCell_blk (setCell_blk hx2 0 (.int .i64 (n0:Int))) 1 (.int .i64 0)) 2 (.int .i64 (n2:Int))) 3 (.int .i64 (n3:Int))
  have hbb:Below w.heap.size k.w ((((k.w.setCell ⟨w.heap.size,0,none⟩ (.int .i64 (n0:Int))).setCell ⟨w.heap.size,1,none⟩ (.int .i64 0)).setCell ⟨w.heap.size,2,none⟩ (.int .i64 (n2:Int))).setCell ⟨w.heap.size,3,none⟩ (.int .i64 (n3:Int))) :=
   ((((Below.refl _ _).setCell (p:=⟨w.heap.size,0,none⟩) (Nat.le_refl _) _).setCell (p:=⟨w.heap.size,1,none⟩) (Nat.le_refl _) _).setCell (p:=⟨w.heap.size,2,none⟩) (Nat.le_refl _) _).setCell (p:=⟨w.heap.size,3,none⟩) (Nat.le_refl _) _
  have H4:=hide h4;have HBB:=hide hbb
  clear hx2 h4 hbb
  go_wp2_with fail
  refine bodyPost_ret (v:=.agg #[.int .i64 (n0:Int),.int .i64 0,.int .i64 (n2:Int),.int .i64 (n3:Int)]) (by simp[results,Tryz.results87,go_sem,e0,e1,e2,e3]) rfl ?_
  exact⟨rfl,(HB.out.trans (k.b.mono HB.out.size)).trans HBB.out⟩
 ·subst h0
  rw[if_pos (by omega)]
  go_enter Tryz.func87,Tryz.ntmps87
  go_upto_region 1 with fail
  rw[HW.out]
  refine wp_region_ext_last (l:=[_,_,_,_,_,_,_,_,_,_,_,_,_,_,_,_,_,_,_]) (o:=_) (by kernel_rfl) (by kernel_rfl) (by kernel_rfl) (by kernel_rfl) ?_
  repeat (quiet_step (exact ext_call (HC.out _)))
  refine wpQuiet_nil ?_
  intro k
  have hx2:=(k.b.block w.heap.size (blk_lt HX.out)).trans HX.out
  have e0:=cell_blk hx2 0
  have e1:=cell_blk hx2 1
  have e2:=cell_blk hx2 2
  have e3:=cell_blk hx2 3
  have y0:=frozen_blk hx2 0
  have y1:=frozen_blk hx2 1
  have y2:=frozen_blk hx2 2
  have y3:=frozen_blk hx2 3
  simp at e0 e1 e2 e3
  have h4:=setCell_blk (setCell_blk (setCell_blk (setCell_blk hx2 0 (.int .i64 (n0:Int))) 1 (.int .i64 1)) 2 (.int .i64 (n2:Int))) 3 (.int .i64 (n3:Int))
  have hbb:Below w.heap.size k.w ((((k.w.setCell ⟨w.heap.size,0,none⟩ (.int .i64 (n0:Int))).setCell ⟨w.heap.size,1,none⟩ (.int .i64 1)).setCell ⟨w.heap.size,2,none⟩ (.int .i64 (n2:Int))).setCell ⟨w.heap.size,3,none⟩ (.int .i64 (n3:Int))) :=
   ((((Below.refl _ _).setCell (p:=⟨w.heap.size,0,none⟩) (Nat.le_refl _) _).setCell (p:=⟨w.heap.size,1,none⟩) (Nat.le_refl _) _).setCell (p:=⟨w.heap.size,2,none⟩) (Nat.le_refl _) _).setCell (p:=⟨w.heap.size,3,none⟩) (Nat.le_refl _) _
  have H4:=hide h4;have HBB:=hide hbb
  clear hx2 h4 hbb
  go_wp2_with fail
  refine bodyPost_ret (v:=.agg #[.int .i64 (n0:Int),.int .i64 1,.int .i64 (n2:Int),.int .i64 (n3:Int)]) (by simp[results,Tryz.results87,go_sem,e0,e1,e2,e3]) rfl ?_
  exact⟨rfl,(HB.out.trans (k.b.mono HB.out.size)).trans HBB.out⟩
 ·rw[if_pos (by omega)]
  have hm:min (IntKind.i64.wrap (t+1)) (1:Int)=1:=by rw[IntWalk.i64_in _ (by omega)];omega
  go_enter Tryz.func87,Tryz.ntmps87
  go_upto_region 1 with fail
  rw[HW.out]
  refine wp_region_ext_last (l:=[_,_,_,_,_,_,_,_,_,_,_,_,_,_,_,_,_,_,_]) (o:=_) (by kernel_rfl) (by kernel_rfl) (by kernel_rfl) (by kernel_rfl) ?_
  repeat (quiet_step (exact ext_call (HC.out _)))
  refine wpQuiet_nil ?_
  intro k
  have hx2:=(k.b.block w.heap.size (blk_lt HX.out)).trans HX.out
  have e0:=cell_blk hx2 0
  have e1:=cell_blk hx2 1
  have e2:=cell_blk hx2 2
  have e3:=cell_blk hx2 3
  have y0:=frozen_blk hx2 0
  have y1:=frozen_blk hx2 1
  have y2:=frozen_blk hx2 2
  have y3:=frozen_blk hx2 3
  simp at e0 e1 e2 e3
  have h4:=setCell_blk (setCell_blk (setCell_blk (setCell_blk hx2 0 (.int .i64 (n0:Int))) 1 (.int .i64 1)) 2 (.int .i64 (n2:Int))) 3 (.int .i64 (n3:Int))
  have hbb:Below w.heap.size k.w ((((k.w.setCell ⟨w.heap.size,0,none⟩ (.int .i64 (n0:Int))).setCell ⟨w.heap.size,1,none⟩ (.int .i64 1)).setCell ⟨w.heap.size,2,none⟩ (.int .i64 (n2:Int))).setCell ⟨w.heap.size,3,none⟩ (.int .i64 (n3:Int))) :=
   ((((Below.refl _ _).setCell (p:=⟨w.heap.size,0,none⟩) (Nat.le_refl _) _).setCell (p:=⟨w.heap.size,1,none⟩) (Nat.le_refl _) _).setCell (p:=⟨w.heap.size,2,none⟩) (Nat.le_refl _) _).setCell (p:=⟨w.heap.size,3,none⟩) (Nat.le_refl _) _
  have H4:=hide h4;have HBB:=hide hbb
  clear hx2 h4 hbb
  go_wp2_with fail
  refine bodyPost_ret (v:=.agg #[.int .i64 (n0:Int),.int .i64 1,.int .i64 (n2:Int),.int .i64 (n3:Int)]) (by simp[results,Tryz.results87,go_sem,e0,e1,e2,e3]) rfl ?_
  exact⟨rfl,(HB.out.trans (k.b.mono HB.out.size)).trans HBB.out⟩
theorem Row.take {α:Type} {w:World} {size:Nat} {dec:α→List Value} {s:Sl α} (h:Row w size dec s) (hd:∀a,(dec a).length=size) {k:Nat} (hk:k≤s.l.length):Row w size dec ⟨s.at_,s.cap,s.l.take k⟩:=by
 have hl:(s.l.take k).length=k:=by rw[List.length_take];omega
 refine⟨?_,by show (s.l.take k).length≤s.cap;rw[hl];exact Nat.le_trans hk h.c,h.m⟩
 show Reads w w.heap.size size s.at_ (s.l.take k).length ((s.l.take k).flatMap dec)
 rw[hl]
 have:=h.r.upto hk
 rwa [show (s.l.flatMap dec).take (k*size)=(s.l.take k).flatMap dec from ?_]at this
 conv=>lhs;rw[←List.take_append_drop k s.l,List.flatMap_append]
 rw[List.take_append_of_le_length (by rw[flatMap_len hd,hl];exact Nat.le_refl _),List.take_of_length_le (by rw[flatMap_len hd,hl];exact Nat.le_refl _)]
theorem exps11_any (x y:MEx) (xb:Nat) (w:World) (hx:Hid (w.heap[xb]?=some (.cells #[.string ⟨x.name.toArray⟩,.int .i64 x.kind,.int .i64 x.ix] 118 (0,0)))) :
  Calls Tryz.prog 90 #[.agg #[.string ⟨y.name.toArray⟩,.int .i64 y.kind,.int .i64 y.ix],.pointer (some ⟨xb,0,none⟩)] w fun e w'=>e=.returned (.bool (y.name==x.name))∧Hid (Below w.heap.size w w'):=by
 obtain⟨W,hW,hb,hxb,hsz⟩:=box_new w #[.string ⟨y.name.toArray⟩,.int .i64 y.kind,.int .i64 y.ix] 118
 have e0:=cell_blk hxb 0
 have f0:=cell_blk ((hb.block xb (blk_lt hx.out)).trans hx.out) 0
 simp at e0 f0
 have HB:=hide hb;have HW:=hide hW
 clear hb hW hxb hsz hx
 go_enter Tryz.func90,Tryz.ntmps90
 go_upto_region 1 with fail
 rw[HW.out]
 go_wp2_with fail
 go_ret
 exact⟨rfl,HB.out⟩
theorem elems11_any (g bx:Nat) (m:MoL) (f:Int) (w:World) (h:Hid (MoAt w g m)) (hz:Hid (MoSz m)) (hx:Hid (MBox w bx g)) :
  Calls Tryz.prog 93 #[.int .i64 f,.pointer (some ⟨bx,0,none⟩)] w fun e w'=>e=.returned (.bool (!inB f (m.imps.l.length+m.funcs.l.length)))∧Hid (Below w.heap.size w w'):=by
 have z1:=hz.out.imps;have z2:=hz.out.funcs
 have HC:=hide (mcount_any g m w h (by omega) (by omega))
 have HH:=hide (fun W=>mhas_any f ((m.imps.l.length+m.funcs.l.length:Nat):Int) W)
 rw[inI_nat]at HH
 have b0:=hx.out.cell
 generalize inB f (m.imps.l.length+m.funcs.l.length)=q at *
 generalize m.imps.l.length+m.funcs.l.length=n at *
 go_enter Tryz.func93,Tryz.ntmps93
 go_wp2_with fail
 refine HC.out.mono ?_;rintro e w2 ⟨rfl,h2⟩
 go_wp2_with fail
 refine(HH.out _).mono ?_;rintro e w3 ⟨rfl,rfl⟩
 go_wp2_with fail
 go_ret
 exact⟨rfl,h2⟩
set_option maxRecDepth 100000 in
set_option maxHeartbeats 1600000 in
theorem elems1_any (g bx i:Nat) (m:MoL) (w:World) (h:Hid (MoAt w g m)) (hz:Hid (MoSz m)) (hx:Hid (MBox w bx g)) (hi:i<m.els.l.length) (ht:-1≤m.table) :
  Calls Tryz.prog 91 #[.int .i64 (i:Int),.pointer (some ⟨bx,0,none⟩)] w fun e w'=>e=.returned (.int .i64 (elE m.g i:Int))∧Hid (Below w.heap.size w w'):=by
 obtain⟨x,hxi⟩:∃x,m.els.l[i]?=some x:=⟨_,List.getElem?_eq_getElem hi⟩
 have hmem:=List.mem_of_getElem? hxi
 obtain⟨_,hfs,_⟩:=h.out.in_.el x hmem
 have hl:=hz.out.el x hmem
 have hE:Hid (elE m.g i=if 20<x.fs.l.length then 15 else if m.table<0∨4294967295<x.at_ then 2 else if x.fs.l.any (fun f=>!inB f (m.imps.l.length+m.funcs.l.length))then 2 else 0):=by
  show _=_
  unfold elE
  rw[show m.g.els.getD i noEl=x.g from map_getD hxi]
  show (if 20<x.fs.l.length then 15 else if m.table<0∨4294967295<x.at_ then 2 else if x.fs.l.all (fun f=>inB f (m.imps.l.length+(m.funcs.l.map FuL.g).length))=true then 0 else 2)=_
  rw[List.length_map]
  have e:(x.fs.l.all (fun f=>inB f (m.imps.l.length+m.funcs.l.length)))=!(x.fs.l.any (fun f=>!inB f (m.imps.l.length+m.funcs.l.length))):=by
   rw[List.not_any_eq_all_not]
   simp
  rw[e]
  cases x.fs.l.any (fun f=>!inB f (m.imps.l.length+m.funcs.l.length))<;>rfl
 obtain⟨_,_,_,_,_,_,_,_,c8,_⟩:=h.out.cells
 obtain⟨ad,ha,_,k0,kj⟩:=h.out.in_.els.at_ (fun _=>rfl) hxi
 have q0:=k0 _ rfl (by omega)
 have q1:=kj 1 (by omega) (by omega) _ rfl
 simp only[Sl.val]at q1
 rw[ha]at c8
 have b0:=hx.out.cell
 obtain⟨W,hW,hb,hxb,hsz⟩:=box_new w #[.int .u64 (x.at_:Int),.slice x.fs.at_ x.fs.l.length x.fs.cap] 120
 have e0:=cell_blk hxb 0
 have e1:=cell_blk hxb 1
 simp at e0 e1
 have hM:=hide (h.out.below hb);have hX:=hide (hx.out.below hb)
 have HWh:=hide (fun b W=>mwhen_any b 2 W)
 have HB:=hide hb;have HW:=hide hW;have HXB:=hide hxb
 have HLF:=hide (has_ints x.fs x.fs.l.length 93 #[.pointer (some ⟨bx,0,none⟩)] (fun f=>!inB f (m.imps.l.length+m.funcs.l.length)) W (hide (hfs.below hb)) rfl (by omega)
  (fun x W=>callF Tryz.func93 (by kernel_rfl) (by kernel_rfl) _ W)
  (hide (fun k x hk V hV=>elems11_any g bx m x V (hide (hM.out.below hV)) hz (hide (hX.out.below hV)))))
 generalize x.fs.l.any (fun f=>!inB f (m.imps.l.length+m.funcs.l.length))=far at *
 clear k0 kj hxi ha hb hW hxb hsz hfs
 generalize x.fs.l.length=n at *
 by_cases h20:20<n
 ·rw[if_pos h20]at hE
  go_enter Tryz.func91,Tryz.ntmps91
  go_upto_region 2 with fail
  rw[HW.out]
  go_wp2_with fail
  go_ret
  exact⟨by rw[hE.out];rfl,HB.out⟩
 rw[if_neg h20]at hE
 by_cases ht0:m.table=-1
 ·have hF:=hide (show elE m.g i=2 by rw[hE.out,if_pos (.inl (by omega))])
  have hT:=hide ht0
  clear hE ht0 ht
  go_enter Tryz.func91,Tryz.ntmps91
  go_upto_region 2 with fail
  rw[HW.out]
  go_wp2_with fail
  refine HLF.out.mono ?_;rintro e w2 ⟨rfl,h2⟩
  have b2:=(hX.out.below h2.out).cell
  obtain⟨_,_,_,d3,_,_,_,_,_,_⟩:=(hM.out.below h2.out).cells
  rw[hT.out]at d3
  go_wp2_with fail
  refine(HWh.out _ _).mono ?_;rintro e w3 ⟨rfl,rfl⟩
  go_wp2_with fail
  go_ret
  exact⟨by rw[hF.out];rfl,HB.out.trans (h2.out.mono HB.out.size)⟩
 ·have hne:(m.table==-1)=false:=by simpa using ht0
  by_cases hat:4294967295<x.at_
  ·have hF:=hide (show elE m.g i=2 by rw[hE.out,if_pos (.inr hat)])
   have hd:decide ((4294967295:Int)<(x.at_:Int))=true:=decide_eq_true (by omega)
   clear hE ht0 ht hat
   cases far <;>
   ·go_enter Tryz.func91,Tryz.ntmps91
    go_upto_region 2 with fail
    rw[HW.out]
    go_wp2_with fail
    refine HLF.out.mono ?_;rintro e w2 ⟨rfl,h2⟩
    have b2:=(hX.out.below h2.out).cell
    obtain⟨_,_,_,d3,_,_,_,_,_,_⟩:=(hM.out.below h2.out).cells
    have e2:=cell_blk ((h2.out.block w.heap.size (blk_lt HXB.out)).trans HXB.out) 0
    simp at e2
    go_wp2_with fail
    refine(HWh.out _ _).mono ?_;rintro e w3 ⟨rfl,rfl⟩
    go_wp2_with fail
    go_ret
    exact⟨by rw[hF.out];rfl,HB.out.trans (h2.out.mono HB.out.size)⟩
  ·rw[if_neg (by omega)]at hE
   have hd:decide ((4294967295:Int)<(x.at_:Int))=false:=decide_eq_false (by omega)
   clear ht0 ht hat
   cases far <;>
   ·go_enter Tryz.func91,Tryz.ntmps91
    go_upto_region 2 with fail
    rw[HW.out]
    go_wp2_with fail
    refine HLF.out.mono ?_;rintro e w2 ⟨rfl,h2⟩
    have b2:=(hX.out.below h2.out).cell
    obtain⟨_,_,_,d3,_,_,_,_,_,_⟩:=(hM.out.below h2.out).cells
    have e2:=cell_blk ((h2.out.block w.heap.size (blk_lt HXB.out)).trans HXB.out) 0
    simp at e2
    go_wp2_with fail
    refine(HWh.out _ _).mono ?_;rintro e w3 ⟨rfl,rfl⟩
    go_wp2_with fail
    go_ret
    exact⟨by rw[hE.out];rfl,HB.out.trans (h2.out.mono HB.out.size)⟩
set_option maxRecDepth 100000 in
set_option maxHeartbeats 1600000 in
theorem datas1_any (g bx i:Nat) (m:MoL) (w:World) (h:Hid (MoAt w g m)) (hz:Hid (MoSz m)) (hx:Hid (MBox w bx g)) (hi:i<m.das.l.length) :
  Calls Tryz.prog 94 #[.int .i64 (i:Int),.pointer (some ⟨bx,0,none⟩)] w fun e w'=>e=.returned (.int .i64 (daE m.g i:Int))∧Hid (Below w.heap.size w w'):=by
 obtain⟨x,hxi⟩:∃x,m.das.l[i]?=some x:=⟨_,List.getElem?_eq_getElem hi⟩
 have hmem:=List.mem_of_getElem? hxi
 have hl:=hz.out.da x hmem
 have hml:=hz.out.mems
 have hE:Hid (daE m.g i=if 4096<x.bs.l.length then 15 else if inB x.mem m.mems.l.length then (if (m.mems.l.getD x.mem.toNat noLm).wide=false∧4294967295<x.at_ then 2 else 0)else 2):=by
  show _=_
  unfold daE
  rw[show m.g.das.getD i noDa=x.g from map_getD hxi]
  rfl
 obtain⟨_,_,_,_,_,_,_,_,_,c9⟩:=h.out.cells
 obtain⟨ad,ha,_,k0,kj⟩:=h.out.in_.das.at_ (fun _=>rfl) hxi
 have q0:=k0 _ rfl (by omega)
 have q1:=kj 1 (by omega) (by omega) _ rfl
 have q2:=kj 2 (by omega) (by omega) _ rfl
 simp only[Sl.val]at q2
 rw[ha]at c9
 have b0:=hx.out.cell
 obtain⟨W,hW,hb,hxb,hsz⟩:=box_new w #[.int .i64 x.mem,.int .u64 (x.at_:Int),.slice x.bs.at_ x.bs.l.length x.bs.cap] 122
 have e2:=cell_blk hxb 2
 have e0:=cell_blk hxb 0
 have e1:=cell_blk hxb 1
 simp at e0 e1 e2
 have E0:=fun k:ExtW W=>k.cell e0
 have E1:=fun k:ExtW W=>k.cell e1
 have hM:=hide (h.out.below hb)
 have B0:=fun k:ExtW W=>k.cell (hx.out.below hb).cell
 obtain⟨_,_,_,_,d4,_,_,_,_,_⟩:=hM.out.cells
 have HWh:=hide (fun b W=>mwhen_any b 2 W)
 have HH:=hide (fun W=>mhas_any x.mem (m.mems.l.length:Int) W)
 rw[inI_nat]at HH
 have HB:=hide hb;have HW:=hide hW
 clear k0 kj hxi ha hb hW hxb hsz e0 e1
 generalize x.bs.l.length=n at *
 by_cases h20:4096<n
 ·rw[if_pos h20]at hE
  clear E0 E1 B0
  go_enter Tryz.func94,Tryz.ntmps94
  go_upto_region 2 with fail
  rw[HW.out]
  go_wp2_with fail
  go_ret
  exact⟨by rw[hE.out];rfl,HB.out⟩
 rw[if_neg h20]at hE
 cases hin:inB x.mem m.mems.l.length with
 | false =>
  rw[hin]at hE HH
  have hF:Hid (daE m.g i=2):=hE.out
  have D4:=fun k:ExtW W=>k.cell d4
  clear hE hin
  go_enter Tryz.func94,Tryz.ntmps94
  go_upto_region 2 with fail
  rw[HW.out]
  go_wp2_with fail
  refine wp_region_ext (by kernel_rfl) (by kernel_rfl) ?_
  repeat (go_big_quiet_step (first|(exact ext_same (HH.out _))|(exact ext_same (HWh.out _ _))))
  refine wpQuiet_nil ?_
  intro k
  go_wp2_with fail
  go_ret
  exact⟨by rw[hF.out];rfl,HB.out.trans (k.b.mono HB.out.size)⟩
 | true =>
  obtain⟨i1,i2⟩:=inB_iff.1 hin
  rw[hin]at hE HH
  obtain⟨j,hj⟩:∃j:Nat,x.mem=(j:Int):=⟨x.mem.toNat,by omega⟩
  have hjl:j<m.mems.l.length:=by omega
  obtain⟨y,hy⟩:∃y,m.mems.l[j]?=some y:=⟨_,List.getElem?_eq_getElem hjl⟩
  rw[hj,Int.toNat_natCast,getD_some hy]at hE
  rw[hj]at HH E0 q0 HW
  obtain⟨am,ham,_,l0,lj⟩:=hM.out.in_.mems.at_ (fun _=>rfl) hy
  have l2:=lj 2 (by omega) (by omega) _ rfl
  rw[ham]at d4
  have L2:=fun k:ExtW W=>k.cell l2
  have D4:=fun k:ExtW W=>k.cell d4
  have m1:IntKind.i64.wrap ((m.mems.l.length:Int)-1)=(m.mems.l.length:Int)-1:=IntWalk.i64_in _ (by omega)
  have m2:min (j:Int) (IntKind.i64.wrap ((m.mems.l.length:Int)-1))=(j:Int):=by omega
  have m4:min (j:Int) ((m.mems.l.length:Int)-1)=(j:Int):=by omega
  have m3:max (j:Int) 0=(j:Int):=by omega
  clear m1
  by_cases hat:4294967295<x.at_
  ·have hd:decide ((4294967295:Int)<(x.at_:Int))=true:=decide_eq_true (by omega)
   cases hwd:y.wide with
   | true =>
    have hF:=hide (show daE m.g i=0 by rw[hE.out,hwd];rfl)
    rw[hwd]at L2
    clear hE hin hat hwd l2 lj l0 hj i1 i2 hy ham
    go_enter Tryz.func94,Tryz.ntmps94
    go_upto_region 2 with fail
    rw[HW.out]
    go_wp2_with fail
    refine wp_region_ext (by kernel_rfl) (by kernel_rfl) ?_
    repeat (go_big_quiet_step (first|(exact ext_same (HH.out _))|(exact ext_same (HWh.out _ _))))
    refine wpQuiet_nil ?_
    intro k
    go_wp2_with fail
    go_ret
    exact⟨by rw[hF.out];rfl,HB.out.trans (k.b.mono HB.out.size)⟩
   | false =>
    have hF:=hide (show daE m.g i=2 by rw[hE.out,if_pos rfl,if_pos ⟨hwd,hat⟩])
    rw[hwd]at L2
    clear hE hin hat hwd l2 lj l0 hj i1 i2 hy ham
    go_enter Tryz.func94,Tryz.ntmps94
    go_upto_region 2 with fail
    rw[HW.out]
    go_wp2_with fail
    refine wp_region_ext (by kernel_rfl) (by kernel_rfl) ?_
    repeat (go_big_quiet_step (first|(exact ext_same (HH.out _))|(exact ext_same (HWh.out _ _))))
    refine wpQuiet_nil ?_
    intro k
    go_wp2_with fail
    go_ret
    exact⟨by rw[hF.out];rfl,HB.out.trans (k.b.mono HB.out.size)⟩
  ·have hd:decide ((4294967295:Int)<(x.at_:Int))=false:=decide_eq_false (by omega)
   have hF:=hide (show daE m.g i=0 by rw[hE.out,if_pos rfl,if_neg (fun hh=>hat hh.2)])
   cases hwd:y.wide with
   | true =>
    rw[hwd]at L2
    clear hE hin hat hwd l2 lj l0 hj i1 i2 hy ham
    go_enter Tryz.func94,Tryz.ntmps94
    go_upto_region 2 with fail
    rw[HW.out]
    go_wp2_with fail
    refine wp_region_ext (by kernel_rfl) (by kernel_rfl) ?_
    repeat (go_big_quiet_step (first|(exact ext_same (HH.out _))|(exact ext_same (HWh.out _ _))))
    refine wpQuiet_nil ?_
    intro k
    go_wp2_with fail
    go_ret
    exact⟨by rw[hF.out];rfl,HB.out.trans (k.b.mono HB.out.size)⟩
   | false =>
    rw[hwd]at L2
    clear hE hin hat hwd l2 lj l0 hj i1 i2 hy ham
    go_enter Tryz.func94,Tryz.ntmps94
    go_upto_region 2 with fail
    rw[HW.out]
    go_wp2_with fail
    refine wp_region_ext (by kernel_rfl) (by kernel_rfl) ?_
    repeat (go_big_quiet_step (first|(exact ext_same (HH.out _))|(exact ext_same (HWh.out _ _))))
    refine wpQuiet_nil ?_
    intro k
    go_wp2_with fail
    go_ret
    exact⟨by rw[hF.out];rfl,HB.out.trans (k.b.mono HB.out.size)⟩
def cntK (m:MoL) (k:Int):Int:=if k=0 then ((m.imps.l.length+m.funcs.l.length:Nat):Int)else if k=1 then tmin m.table else if k=2 then (m.mems.l.length:Int)else (m.gls.l.length:Int)
theorem exK_cnt (m:MoL) (x:MEx) (ht:-1≤m.table):exK m.g x=(inI x.kind 4&&inI x.ix (cntK m x.kind)):=by
 rw[Bool.eq_iff_iff]
 unfold exK cntK inI inB tmin Mo.all
 simp only[Bool.or_eq_true,Bool.and_eq_true,decide_eq_true_eq,beq_iff_eq,show m.g.imps=m.imps.l from rfl,show m.g.funcs.length=m.funcs.l.length from by simp[MoL.g],show m.g.table=m.table from rfl,show m.g.mems=m.mems.l from rfl,show m.g.gls=m.gls.l from rfl]
 constructor
 ·rintro(⟨h1,h2,h3⟩|⟨h1,h2,h3⟩|⟨h1,h2,h3⟩|⟨h1,h2,h3⟩)
  ·rw[h1];simp;omega
  ·rw[h1,h3,if_neg (by omega),if_pos rfl,if_pos h2];simp
  ·rw[h1];simp;omega
  ·rw[h1];simp;omega
 ·rintro⟨⟨h1,h2⟩,h3,h4⟩
  rcases(by omega:x.kind=0∨x.kind=1∨x.kind=2∨x.kind=3)with h|h|h|h
  ·rw[h]at h4;simp at h4;left;exact⟨h,h3,by omega⟩
  ·rw[h]at h4
   rw[if_neg (by omega),if_pos rfl]at h4
   right;left
   by_cases hh:0≤m.table
   ·rw[if_pos hh]at h4;exact⟨h,hh,by omega⟩
   ·rw[if_neg hh]at h4;omega
  ·rw[h]at h4;simp at h4;right;right;left;exact⟨h,h3,by omega⟩
  ·rw[h]at h4;simp at h4;right;right;right;exact⟨h,h3,by omega⟩
set_option maxRecDepth 100000 in
set_option maxHeartbeats 3200000 in
theorem exps1_any (g bx cx i:Nat) (m:MoL) (w:World) (h:Hid (MoAt w g m)) (hz:Hid (MoSz m)) (hx:Hid (MBox w bx g)) (hc:Hid (w.heap[cx]?=some (.cells #[.int .i64 ((m.imps.l.length+m.funcs.l.length:Nat):Int),.int .i64 (tmin m.table),.int .i64 (m.mems.l.length:Int),.int .i64 (m.gls.l.length:Int)] 184 (0,0)))) (hi:i<m.exs.l.length) (ht:-1≤m.table) :
  Calls Tryz.prog 88 #[.int .i64 (i:Int),.pointer (some ⟨bx,0,none⟩),.pointer (some ⟨cx,0,none⟩)] w fun e w'=>e=.returned (.int .i64 (exE m.g i:Int))∧Hid (Below w.heap.size w w'):=by
 obtain⟨x,hxi⟩:∃x,m.exs.l[i]?=some x:=⟨_,List.getElem?_eq_getElem hi⟩
 have hmem:=List.mem_of_getElem? hxi
 obtain⟨_,_,hnl⟩:=h.out.in_.ex x hmem
 have hle:=hz.out.exs
 have hcap:=h.out.in_.exs.c
 have hE:Hid (exE m.g i=if !nmB x.name||(m.exs.l.take i).any (fun y=>y.name==x.name)then 16 else if inI x.kind 4&&inI x.ix (cntK m x.kind)then 0 else 2):=by
  show _=_
  unfold exE
  rw[show m.g.exs.getD i noEx=x from getD_some hxi,←exK_cnt m x ht]
  rfl
 obtain⟨_,_,_,_,_,_,c6,_,_,_⟩:=h.out.cells
 obtain⟨ad,ha,_,k0,kj⟩:=h.out.in_.exs.at_ (fun _=>rfl) hxi
 have q0:=k0 _ rfl (by omega)
 have q1:=kj 1 (by omega) (by omega) _ rfl
 have q2:=kj 2 (by omega) (by omega) _ rfl
 have b0:=hx.out.cell
 obtain⟨W,hW,hb,hxb,hsz⟩:=box_new w #[.string ⟨x.name.toArray⟩,.int .i64 x.kind,.int .i64 x.ix] 118
 have hM:=hide (h.out.below hb)
 have b1:=(hx.out.below hb).cell
 obtain⟨_,_,_,_,_,_,d6,_,_,_⟩:=hM.out.cells
 have HXB:=hide hxb
 have htl:(m.exs.l.take i).length=i:=by rw[List.length_take];omega
 have hHS:=has_ex ⟨m.exs.at_,m.exs.cap,m.exs.l.take i⟩ i 90 #[.pointer (some ⟨w.heap.size,0,none⟩)] (fun y=>y.name==x.name) W (hide (hM.out.in_.exs.take (fun _=>rfl) (by omega))) htl (by omega)
  (fun x W=>callF Tryz.func90 (by kernel_rfl) (by kernel_rfl) _ W)
  (hide (fun k y hk V hV=>exps11_any x y w.heap.size V (hide ((hV.block _ (blk_lt HXB.out)).trans HXB.out))))
 simp only at hHS
 rw[ha]at c6 d6 hHS
 have HHS:=hide hHS
 have hC:=hide ((hb.block cx (blk_lt hc.out)).trans hc.out)
 have HWh:=hide (fun b W=>mwhen_any b 2 W)
 have HN:=hide (fun W=>named13_any x.name W hnl)
 have HH:=hide (fun W=>mhas_any x.kind 4 W)
 have HK:=hide (fun W=>mhas_any x.ix (cntK m x.kind) W)
 have HB:=hide hb;have HW:=hide hW
 generalize (m.exs.l.take i).any (fun y=>y.name==x.name)=again at *
 generalize nmB x.name=nm at *
 clear k0 kj hxi ha hb hW hxb hsz hHS htl
 go_enter Tryz.func88,Tryz.ntmps88
 go_upto_region 2 with fail
 rw[HW.out]
 go_wp2_with fail
 refine HHS.out.mono ?_;rintro e w2 ⟨rfl,h2⟩
 have hx2:=(h2.out.block w.heap.size (blk_lt HXB.out)).trans HXB.out
 have e0:=cell_blk hx2 0
 have e1:=cell_blk hx2 1
 have e2:=cell_blk hx2 2
 simp at e0 e1 e2
 have hC2:=(h2.out.block cx (blk_lt hC.out)).trans hC.out
 have g0:=cell_blk hC2 0
 have g1:=cell_blk hC2 1
 have g2:=cell_blk hC2 2
 have g3:=cell_blk hC2 3
 simp at g0 g1 g2 g3
 have HB2:Hid (Below w.heap.size w w2):=HB.out.trans (h2.out.mono HB.out.size)
 clear hx2 hC2 h2 HHS
 cases nm with
 | false =>
  go_wp2_with fail
  refine(HN.out _).mono ?_;rintro e w3 ⟨rfl,rfl⟩
  go_wp2_with fail
  go_ret
  exact⟨by rw[hE.out];rfl,HB2.out⟩
 | true =>
 cases again with
 | true =>
  go_wp2_with fail
  refine(HN.out _).mono ?_;rintro e w3 ⟨rfl,rfl⟩
  go_wp2_with fail
  go_ret
  exact⟨by rw[hE.out];rfl,HB2.out⟩
 | false =>
 have hE2:Hid (exE m.g i=if inI x.kind 4&&inI x.ix (cntK m x.kind)then 0 else 2):=hE.out
 have E1:=fun k:ExtW w2=>k.cell e1
 have E2:=fun k:ExtW w2=>k.cell e2
 go_wp2_with fail
 refine(HN.out _).mono ?_;rintro e w3 ⟨rfl,rfl⟩
 cases hk4:inI x.kind 4 with
 | false =>
  have hF:Hid (exE m.g i=2):=by show _=_;rw[hE2.out,hk4];rfl
  rw[hk4]at HH
  clear hE hE2 hk4
  go_upto_region 5 with fail
  refine wp_region_ext (by kernel_rfl) (by kernel_rfl) ?_
  repeat (go_big_quiet_step (first|(with_reducible exact ext_same (HH.out _))|(with_reducible exact ext_same (HK.out _))|(with_reducible exact ext_same (HWh.out _ _))))
  refine wpQuiet_nil ?_
  intro k
  go_wp2_with fail
  go_ret
  exact⟨by rw[hF.out];rfl,HB2.out.trans (k.b.mono HB2.out.size)⟩
 | true =>
  obtain⟨kn,hkn⟩:∃kn:Nat,x.kind=(kn:Int):=⟨x.kind.toNat,by unfold inI at hk4;simp at hk4;omega⟩
  have hk3:kn<4:=by unfold inI at hk4;simp at hk4;omega
  have gk:w2.cell? ⟨cx,kn,none⟩=some (.int .i64 (cntK m x.kind)):=by
   rw[hkn]
   unfold cntK
   rcases(by omega:kn=0∨kn=1∨kn=2∨kn=3)with h|h|h|h<;>subst h<;>simp[g0,g1,g2,g3]
  have GK:=fun k:ExtW w2=>k.cell gk
  have hF:Hid ((exE m.g i:Int)=if !(inI x.ix (cntK m x.kind))then 2 else 0):=by
   show _=_
   rw[hE2.out,hk4,Bool.true_and]
   cases inI x.ix (cntK m x.kind)<;>rfl
  rw[hk4]at HH
  have m1:min (kn:Int) 3=(kn:Int):=by omega
  have m2:max (kn:Int) 0=(kn:Int):=by omega
  have hk3':(kn:Int)<4:=by omega
  generalize inI x.ix (cntK m x.kind)=q at *
  generalize cntK m x.kind=ck at *
  rw[hkn]at E1 HH
  clear hk4 hE hE2 gk g0 g1 g2 g3 hkn
  go_upto_region 5 with fail
  refine wp_region_ext (by kernel_rfl) (by kernel_rfl) ?_
  repeat (go_big_quiet_step (first|(with_reducible exact ext_same (HH.out _))|(with_reducible exact ext_same (HK.out _))|(with_reducible exact ext_same (HWh.out _ _))))
  refine wpQuiet_nil ?_
  intro k
  cases q <;>
  ·go_wp2_with fail
   go_ret
   exact⟨by rw[hF.out];rfl,HB2.out.trans (k.b.mono HB2.out.size)⟩
end Go.Proofs.YtomppgohoplemaaGreat
