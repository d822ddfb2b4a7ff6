import Derived.Test.YtmekgpdfiimofaaGreatDoorWBO
import Derived.Test.YtmekgpdfiimofaaGreatDoorWBP
import Derived.Test.YtmekgpdfiimofaaGreatDoorWAB
import Derived.BigQuiet
import Derived.Laws.StructEq
import Derived.Handed
import Derived.ShapedOpen
import Derived.Test.YtmekgpdfiimofaaGreatDoorRows
import Derived.RowKit
import Derived.SizedLaws
set_option linter.unusedVariables false
namespace Go.Proofs.YtmekgpdfiimofaaGreatDoor
open Go.RowKit
theorem run_loadM {w:World} {g:Nat} {a0 a1 a2 a3 a4 a5 a6 a7 a8 a9:Value} (h:w.cell? ⟨g,0,none⟩=some a0∧w.cell? ⟨g,1,none⟩=some a1∧w.cell? ⟨g,2,none⟩=some a2∧w.cell? ⟨g,3,none⟩=some a3∧w.cell? ⟨g,4,none⟩=some a4∧w.cell? ⟨g,5,none⟩=some a5∧w.cell? ⟨g,6,none⟩=some a6∧w.cell? ⟨g,7,none⟩=some a7∧w.cell? ⟨g,8,none⟩=some a8∧w.cell? ⟨g,9,none⟩=some a9):(Instr.loadAt 31 (.pointer (some ⟨g,0,none⟩))).run Tryz.prog w=.ok (.agg #[a0,a1,a2,a3,a4,a5,a6,a7,a8,a9]) w:=by
 obtain⟨l0,l1,l2,l3,l4,l5,l6,l7,l8,l9⟩:=h
 go_simp
theorem run_loadMB {w:World} {g:Nat} {a0 a1 a2 a3 a4 a5 a6 a7 a8 a9:Value} {t:TypeId} (h:w.heap[g]?=some (.cells #[a0,a1,a2,a3,a4,a5,a6,a7,a8,a9] t (0,0))):(Instr.loadAt 31 (.pointer (some ⟨g,0,none⟩))).run Tryz.prog w=.ok (.agg #[a0,a1,a2,a3,a4,a5,a6,a7,a8,a9]) w :=
 run_loadM ⟨cell_blk h 0,cell_blk h 1,cell_blk h 2,cell_blk h 3,cell_blk h 4,cell_blk h 5,cell_blk h 6,cell_blk h 7,cell_blk h 8,cell_blk h 9⟩
set_option maxRecDepth 100000 in
theorem run_neq_fnd (r:Fnd) (W:World):(binOp .neq 51 (.agg #[.string ⟨r.wh.toArray⟩,.int .i64 r.fn,.int .i64 (r.pl:Int),.int .i64 (r.er:Int)]) (.agg #[.string ⟨r.wh.toArray⟩,.int .i64 r.fn,.int .i64 (r.pl:Int),.int .i64 (r.er:Int)])).run Tryz.prog W=.ok (.bool false) W:=by
 have hS:Tryz.prog.underlying 51=some (.struct (Tryz.prog.fieldsOf 51)):=by kernel_rfl
 have hp:Tryz.prog.stoodInHeld 51=false:=by kernel_rfl
 rw[run_neq_struct,show (10000:Nat)=9999+1 from rfl,run_equalIn_agg W 9999 51 _ _ hS hp]
 simp only[Program.fieldsOf,Tryz.underlying51]
 go_simp
set_option maxRecDepth 100000 in
theorem run_eql_fnd (r:Fnd) (W:World):(binOp .eql 51 (.agg #[.string ⟨r.wh.toArray⟩,.int .i64 r.fn,.int .i64 (r.pl:Int),.int .i64 (r.er:Int)]) (.agg #[.string ⟨r.wh.toArray⟩,.int .i64 r.fn,.int .i64 (r.pl:Int),.int .i64 (r.er:Int)])).run Tryz.prog W=.ok (.bool true) W:=by
 have hS:Tryz.prog.underlying 51=some (.struct (Tryz.prog.fieldsOf 51)):=by kernel_rfl
 have hp:Tryz.prog.stoodInHeld 51=false:=by kernel_rfl
 rw[run_eql_struct,show (10000:Nat)=9999+1 from rfl,run_equalIn_agg W 9999 51 _ _ hS hp]
 simp only[Program.fieldsOf,Tryz.underlying51]
 go_simp
set_option maxRecDepth 100000 in
set_option maxHeartbeats 6400000 in
theorem validalone_any (m:MoL) (f:Int) (w:World) (ml:Int) (h:Hid (MoIn w m)) (hr:Hid (MoRe m)) (hml:Hid (w.cell? ⟨1,0,none⟩=some (.int .i64 ml))) :
  Calls Tryz.prog 4 #[.agg m.cs.toArray,.int .i64 f] w fun e w'=>e=.returned (.bool true)∧Hid (Below w.heap.size w w'):=by
 obtain⟨W,xg,hW,hxg,hb,hin⟩:=vin_of h.out hml.out
 have HIN:=hide hin;have HW:=hide hW;have HXG:=hide hxg;have HB:=hide hb
 clear hW hxg hb hin
 have HG:=hide (fun (V:World) (hV:Below W.heap.size W V)=>great7_any m V (hide (HIN.out.cells V hV).2.1) hr)
 have HA:Hid (∀V,Below W.heap.size W V→Calls Tryz.prog 6 #[] V fun e w'=>e=.returned (.bool true)∧Hid (Below V.heap.size V w')):=fun V hV=>awake17 V ml (hide (HIN.out.cells V hV).2.2)
 have HTX0:=hide (fun (V:World) (hV:Below W.heap.size W V) (hs:Hid (MoSm m))=>lto_any m V (hide (HIN.out.cells V hV).2.1) hs)
 have HUX0:=hide (fun (V:World) (hV:Below W.heap.size W V) (hs:Hid (MoSm m))=>lunfit_any m V (hide (HIN.out.cells V hV).2.1) hs)
 unfold MoL.cs Sl.val at HW HG HTX0 HUX0 ⊢
 go_enter Tryz.func4,Tryz.ntmps4
 go_upto_region 1 with fail
 rw[HW.out,HXG.out]
 obtain⟨⟨c0,c1,c2,c3,c4,c5,c6,c7,c8,c9⟩,_,_⟩:=HIN.out.cells W (Below.refl _ _)
 go_wp2_with fail
 refine(HG.out W (Below.refl _ _)).mono ?_;rintro e w1 ⟨x,rfl,hx0,hxs,hb1⟩
 clear c0 c1 c2 c3 c4 c5 c6 c7 c8 c9
 by_cases hx:0<x
 ·have hgt:decide ((0:Int)<x)=true:=decide_eq_true hx
  clear hx0
  go_wp2_with fail
  refine(HA.out w1 hb1.out).mono ?_;rintro e w2 ⟨rfl,hb2⟩
  go_wp2_with fail
  go_ret
  exact⟨rfl,HB.out.trans ((hb1.out.trans (hb2.out.mono hb1.out.size)).mono HB.out.size)⟩
 have hxz:x=0:=by omega
 subst hxz
 have HST:Hid (MoSt m):=(hxs.out rfl).1
 have HSM:Hid (MoSm m):=HST.out.sm
 have hn110:m.funcs.l.length≤110:=HSM.out.funcs
 clear hx hx0 hxs HG
 have HTX:=hide (fun (V:World) (hV:Below W.heap.size W V)=>HTX0.out V hV HSM)
 have HUX:=hide (fun (V:World) (hV:Below W.heap.size W V)=>HUX0.out V hV HSM)
 clear HTX0 HUX0
 go_wp2_with fail
 refine(HA.out w1 hb1.out).mono ?_;rintro e w2 ⟨rfl,hb2⟩
 have hB3:=hide (hb1.out.trans (hb2.out.mono hb1.out.size))
 clear hb1 hb2 HA
 by_cases hf0:f<0
 ·go_wp2_with fail
  go_ret
  exact⟨rfl,HB.out.trans (hB3.out.mono HB.out.size)⟩
 obtain⟨⟨c0,c1,c2,c3,c4,c5,c6,c7,c8,c9⟩,hin3,_⟩:=HIN.out.cells w2 hB3.out
 clear hin3
 by_cases hf1:(m.funcs.l.length:Int)≤f
 ·go_wp2_with fail
  go_ret
  exact⟨rfl,HB.out.trans (hB3.out.mono HB.out.size)⟩
 obtain⟨f0,rfl⟩:∃k:Nat,f=(k:Int):=⟨f.toNat,by omega⟩
 have hff:f0<m.funcs.l.length:=by omega
 clear hf0 hf1
 obtain⟨yg,hyg⟩:∃yg,w2.heap.size=yg:=⟨_,rfl⟩
 obtain⟨W4,hW4,hb4,hx4,hs4⟩:=box_new w2 #[.slice m.sigs.at_ m.sigs.l.length m.sigs.cap,.slice m.imps.at_ m.imps.l.length m.imps.cap,.slice m.funcs.at_ m.funcs.l.length m.funcs.cap,.int .i64 m.table,.slice m.mems.at_ m.mems.l.length m.mems.cap,.slice m.gls.at_ m.gls.l.length m.gls.cap,.slice m.exs.at_ m.exs.l.length m.exs.cap,.int .i64 m.start,.slice m.els.at_ m.els.l.length m.els.cap,.slice m.das.at_ m.das.l.length m.das.cap] 31
 obtain⟨W5,hW5,hb5,hx5,hs5⟩:=box_new W4 #[] 44
 rw[hyg]at hx4 hs4 hb4
 rw[hs4]at hx5 hs5 hb5
 have hB5:Below yg w2 W5:=hb4.trans (hb5.mono (by omega))
 have HBY5:Hid (Below yg w2 W5):=hB5
 have hBW5:Below W.heap.size W W5:=hB3.out.trans (hB5.mono (by have:=hB3.out.size;omega))
 have hxgl:xg<yg:=by have:=World.block_lt_of_cell? w2 _ (HIN.out.cells w2 hB3.out).1.1;rw[hyg]at this;exact this
 have hx45:=(hb5.block yg (by omega)).trans hx4
 have hown5:Hid (W5.ownsRow (yg+1) 44 3 (.slice (some ⟨yg+1,0,none⟩) 0 0) 0 []):=⟨by simp,.inr ⟨yg+1,0,#[],rfl,Nat.le_refl _,hx5,Nat.le_refl _,by unfold maxLen;omega,by simp,by simp⟩⟩
 have hrd5:Hid (Reads W5 W5.heap.size 3 m.funcs.at_ m.funcs.l.length (m.funcs.l.flatMap FuL.cs)):=(HIN.out.cells W5 hBW5).2.1.funcs.r
 have hroom5:Room 0 m.funcs.l.length 56:=room_of (by omega) (by omega)
 have HYG:=hide hyg;have HW4:=hide hW4;have HW5:=hide hW5;have HX45:=hide hx45;have HB5:=hide hBW5;have HS4:=hide hs4;have HS5:=hide hs5
 have hxg4:xg<W4.heap.size:=by omega
 have c24:=((HIN.out.cells W4 (hB3.out.trans (hb4.mono (by have:=hB3.out.size;omega)))).1).2.2.1
 clear hyg hW4 hb4 hx4 hs4 hW5 hb5 hx5 hs5 hB5 hBW5 hx45
 go_upto_region 6 with fail
 rw[HYG.out,HW4.out]
 clear c0 c1 c2 c3 c4 c5 c6 c7 c8 c9
 go_upto_region 7 with (at_builtin;rw[HW5.out];refine wpList_append_any rfl (.tmp 31) (.tmp 33) rfl (yg+1) vf_elem (.slice (some ⟨W4.heap.size,0,none⟩) 0 0) 0 [] rfl (by rw[HS4.out];exact hown5.out) W5.heap.size m.funcs.at_ m.funcs.l.length m.funcs.cap (m.funcs.l.flatMap FuL.cs) rfl hrd5.out vcs_one hroom5 (by have:=HS5.out;omega) ?_;intro v6 w6 ho6 hg6;rw[Nat.zero_add,List.nil_append]at ho6;have HB6:Hid (Below W.heap.size W w6):=HB5.out.grown hg6.by_ HB5.out.size (fun q hq=>by have:=own_ge hown5.out q (by rw[←HS4.out];exact hq);have:=HYG.out;have:=hB3.out.size;omega);have HBY6:Hid (Below yg w2 w6):=HBY5.out.grown hg6.by_ (by have:=HS5.out;omega) (fun q hq=>by have:=own_ge hown5.out q (by rw[←HS4.out];exact hq);omega);have HX6:=hide ((hg6.only.block yg (blk_lt HX45.out) (fun hm=>by have:=own_ge hown5.out yg (by rw[←HS4.out];simpa using hm);omega)).trans HX45.out);obtain⟨A3,q3,hv6,_,_⟩:=own_form ho6;subst hv6;have HO6:=hide ho6;have y2:=cell_blk HX6.out 2;have z2:=frozen_blk HX6.out 2;simp at y2;clear ho6 hg6)
 have hset:Only [yg] w6 (w6.setCell ⟨yg,2,none⟩ (.slice A3 m.funcs.l.length q3)):=Only.setCell w6 (p:=⟨yg,2,none⟩) (by simp) _
 have hx7:=setCell_blk HX6.out 2 (.slice A3 m.funcs.l.length q3)
 have ho7:=own_only3 HO6.out hset (fun q hq hm=>by have:=own_ge HO6.out q hq;simp at hm;omega)
 have hwy:W.heap.size≤yg:=by have:=HYG.out;have:=hB3.out.size;omega
 have hb7:Below W.heap.size W (w6.setCell ⟨yg,2,none⟩ (.slice A3 m.funcs.l.length q3)):=HB6.out.trans (hset.below HB6.out.size (by simp;exact hwy))
 have hby7:Below yg w2 (w6.setCell ⟨yg,2,none⟩ (.slice A3 m.funcs.l.length q3)):=HBY6.out.trans (hset.below (by have:=HBY6.out.size;have:=HYG.out;omega) (by simp))
 obtain⟨W7,hW7⟩:∃W7,w6.setCell ⟨yg,2,none⟩ (.slice A3 m.funcs.l.length q3)=W7:=⟨_,rfl⟩
 rw[hW7]at hx7 ho7 hb7 hby7 ⊢
 simp at hx7
 obtain⟨Q,hQ⟩:∃Q,W7.heap.size=Q:=⟨_,rfl⟩
 have HX7:=hide hx7;have HO7:=hide ho7;have HB7:=hide hb7;have HBY7:=hide hby7;have HQ:=hide hQ
 have hyQ:yg+1≤Q:=by have:=blk_lt hx7;omega
 clear hW7 hx7 ho7 hb7 hby7 hset HO6 HX6 HB6 HBY6 HBY5 HB5 HX45 HW4 HW5 hQ c24 y2 z2 hrd5 hown5
 have HOQ:Hid (∀q,(Value.slice A3 m.funcs.l.length q3).ownBlock=some q→q<Q):=fun q hq=>by have:=(HO7.out.lt q hq).2;have:=HQ.out;omega
 go_wp2_with fail
 go_loopw [6] (fun i V=>∃(k:Nat) (fs:List FuL),i=.int .i64 (k:Int)∧k≤m.funcs.l.length∧Hid (V.ownsRow (yg+1) 44 3 (.slice A3 m.funcs.l.length q3) m.funcs.l.length (fs.flatMap FuL.cs))∧Hid (StpF V Q (fun i=>i != f0) k m.funcs.l fs)∧Hid (Below (yg+1) W7 V)∧Q≤V.heap.size) (fun i _=>m.funcs.l.length-(intOf i).toNat)
 case atStart=>exact⟨0,m.funcs.l,rfl,Nat.zero_le _,HO7,StpF.zero _ _ _ _,Below.refl _ _,Nat.le_of_eq HQ.out.symm⟩
 case round =>
  obtain⟨k,fs,rfl,hk,ho,hst,hbr,hQr⟩:=hrel
  have HXr:=hide ((hbr.out.block yg (by omega)).trans HX7.out)
  have y2:wr.cell? ⟨yg,2,none⟩=some (.slice A3 m.funcs.l.length q3):=by have:=cell_blk HXr.out 2;simpa using this
  by_cases hlt:k<m.funcs.l.length
  ·have hki:(k:Int)<(m.funcs.l.length:Int):=by omega
   by_cases hkf:k=f0
   ·subst hkf
    have hbne:((k:Int) != (k:Int))=false:=by simp
    have hsk:Hid (StpF wr Q (fun i=>i != k) (k+1) m.funcs.l fs):=hst.out.skip (by simp)
    clear hst
    go_wp2_with fail
    go_roundw
    case rel=>exact⟨k+1,fs,by go_num,by omega,ho,hsk,hbr,hQr⟩
    case measure=>simp[intOf]<;>omega
   ·have hbne:((k:Int) != (f0:Int))=true:=by simp;omega
    obtain⟨y,hy⟩:∃y,m.funcs.l[k]?=some y:=⟨_,List.getElem?_eq_getElem hlt⟩
    have hyf:=hst.out.get hy
    obtain⟨q,c9,hv⟩:=own_some ho.out (by omega)
    injection hv with e1 _ e3
    subst e1
    obtain⟨nb,hnb⟩:∃nb,wr.heap.size=nb:=⟨_,rfl⟩
    have hqQ:q<Q:=HOQ.out q rfl
    have hq1:yg+1≤q:=own_ge ho.out q rfl
    have hqr:q<wr.heap.size:=by omega
    have y3:wr.cell? ⟨q,k*3+1,none⟩=some (.slice y.bd.loc.at_ y.bd.loc.l.length y.bd.loc.cap):=own_cell (g:=q) (dec:=FuL.cs) (fun _=>rfl) ho.out rfl hyf 1 (by omega) _ rfl
    have y4:wr.cell? ⟨q,k*3+1+1,none⟩=some (.slice y.bd.l.at_ y.bd.l.l.length y.bd.l.cap):=own_cell (g:=q) (dec:=FuL.cs) (fun _=>rfl) ho.out rfl hyf 2 (by omega) _ rfl
    have f3:=own_free ho.out (g:=q) rfl (k*3+1)
    have f4:=own_free ho.out (g:=q) rfl (k*3+1+1)
    have hoc:=own_setCell (g:=q) (own_setCell (g:=q) ho.out rfl (k*3+1) (by omega) (.slice none 0 0)) rfl (k*3+2) (by omega) (.slice (some ⟨nb,0,none⟩) 2 2)
    have hod:=stop_own hyf hoc
    obtain⟨Wb,hWb⟩:∃Wb,(wr.setCell ⟨q,k*3+1,none⟩ (.slice none 0 0)).setCell ⟨q,k*3+1+1,none⟩ (.slice (some ⟨nb,0,none⟩) 2 2)=Wb:=⟨_,rfl⟩
    have hon:Only [q] wr Wb:=by rw[←hWb];exact(Only.setCell wr (p:=⟨q,k*3+1,none⟩) (by simp) _).trans (Only.setCell _ (p:=⟨q,k*3+1+1,none⟩) (by simp) _)
    have hsz:Wb.heap.size=nb:=by rw[←hWb,←hnb];simp[World.setCell]
    rw[show k*3+2=k*3+1+1 from rfl,hWb]at hod
    obtain⟨Wc,hWc,hbc,hxc,hsc⟩:=box_new Wb stopCs 38
    rw[hsz]at hbc hxc hsc
    have hoe:=own_only3 (S:=[]) hod (Only.of_below (hbc.mono (by omega))) (by simp)
    have hse:StpF Wc Q (fun i=>i != f0) (k+1) m.funcs.l (fs.set k (stopFu y nb)):=by
     have h1:=(hst.out.only hon (by simp;omega)).below (hbc.mono (by omega))
     exact h1.put (by simp;exact hkf) hy (by omega) hxc
    have hbe:Below (yg+1) W7 Wc:=by
     have b1:Below (yg+1) W7 Wb:=hbr.out.trans (hon.below (by omega) (by simp;omega))
     exact b1.trans (hbc.mono (by omega))
    have hQc:Q≤Wc.heap.size:=by omega
    unfold stopCs at hWc
    have HWB:=hide hWb;have HWC:=hide hWc;have HOD:=hide hoe;have HSC:=hide hse;have HBC:=hide hbe;have HNB:=hide hnb;have HY:=hide hy
    clear hWb hWc hoc hod hoe hon hsc hbc hxc hsz hse hbe hnb hy hyf e3 ho hst hbr
    go_wp2_with fail
    rw[HNB.out,HWB.out,HWC.out]
    go_roundw
    case rel=>exact⟨k+1,fs.set k (stopFu y nb),by go_num,by omega,HOD,HSC,HBC,hQc⟩
    case measure=>simp[intOf]<;>omega
  ·have hkn:k=m.funcs.l.length:=by omega
   subst hkn
   have hle:¬((m.funcs.l.length:Int)<(m.funcs.l.length:Int)):=by omega
   have hB9:Below W.heap.size W wr:=HB7.out.trans (hbr.out.mono (by have:=HB7.out.size;omega))
   have hY9:Below yg w2 wr:=HBY7.out.trans (hbr.out.mono (by omega))
   have hrF:=(RowF.of_own ho.out hst.out.len.symm).row
   have hM9:MoIn wr (vputF m A3 q3 fs):=put_in (p:=fun i=>i != f0) (Q:=Q) (k:=m.funcs.l.length) (HIN.out.cells wr hB9).2.1 hrF hst.out
   have hS9:MoSm (vputF m A3 q3 fs):=put_sm (p:=fun i=>i != f0) (Q:=Q) (k:=m.funcs.l.length) HSM.out hst.out
   have hfl:fs.length=m.funcs.l.length:=hst.out.len
   have hsame:SameF m.g (fs.map FuL.g):=put_same hst.out
   have hgl:m.g.funcs.length=m.funcs.l.length:=by simp[MoL.g]
   have hPL:(unfitP m.g).2=0→allP (withF m.g (fs.map FuL.g))=allF m.g f0∧(allP m.g).filter (fun x=>x.fn==(f0:Int))=allF m.g f0:=fun hu =>
    all_alone hsame hu (by omega) ((put_bd hst.out hff).2 (by simp)) (fun i hi hne=>(put_bd hst.out (by omega)).1 (by simpa using hne))
   have hUF:unfitP (withF m.g (fs.map FuL.g))=unfitP m.g:=unfit_w hsame
   obtain⟨G,hG⟩:∃G,(vputF m A3 q3 fs).g=G:=⟨_,rfl⟩
   rw[show withF m.g (fs.map FuL.g)=G from hG]at hPL hUF
   have hTY:∀V,Below wr.heap.size wr V→Calls Tryz.prog 8 #[.agg (vputF m A3 q3 fs).cs.toArray] V (ToM (vputF m A3 q3 fs) V):=fun V hV=>lto_any _ V (hide (hM9.below hV)) (hide hS9)
   obtain⟨LA,hLA⟩:∃LA,allP m.g=LA:=⟨_,rfl⟩
   obtain⟨LB,hLB⟩:∃LB,allP G=LB:=⟨_,rfl⟩
   obtain⟨wh,hwh⟩:∃wh,(unfitP m.g).1=wh:=⟨_,rfl⟩
   obtain⟨no,hno⟩:∃no,(unfitP m.g).2=no:=⟨_,rfl⟩
   have hAA:∀V g2 m2,Below W.heap.size W V→Hid (MoAt V g2 m2)→Hid (m2.g=m.g)→Hid (MoSm m2)→Calls Tryz.prog 12 #[.pointer (some ⟨g2,0,none⟩)] V (AllV V LA):=fun V g2 m2 hV h1 h2 h3=>by rw[←hLA];exact vall_any h1 h2 h3 (hide (HIN.out.cells V hV).2.2)
   have hAB:∀V g2 m2,Below W.heap.size W V→Hid (MoAt V g2 m2)→Hid (m2.g=G)→Hid (MoSm m2)→Calls Tryz.prog 12 #[.pointer (some ⟨g2,0,none⟩)] V (AllV V LB):=fun V g2 m2 hV h1 h2 h3=>by rw[←hLB];exact vall_any h1 h2 h3 (hide (HIN.out.cells V hV).2.2)
   have hBAD:no≠0→LA=[⟨wh,-1,0,no⟩]∧LB=[⟨wh,-1,0,no⟩]:=fun h0=>by
    rw[←hLA,←hLB]
    unfold allP
    rw[hUF,hno,hwh,if_pos h0,if_pos h0]
    exact⟨rfl,rfl⟩
   have hGOOD:no=0→LB=allF m.g f0∧LA.filter (fun x=>x.fn==(f0:Int))=allF m.g f0:=fun h0=>by
    rw[←hLA,←hLB]
    exact hPL (hno.trans h0)
   have hle2:LA.length≤111:=by
    rw[←hLA]
    unfold allP
    split
    ·simp
    ·have:=allR_len m.g m.g.funcs.length;omega
   have HLE:=hide hle2;have HAA:=hide hAA;have HAB:=hide hAB;have HBAD:=hide hBAD;have HGOOD:=hide hGOOD;have HGG:=hide hG;have HB9:=hide hB9;have HNO:=hide hno;have HWH:=hide hwh
   have HTY:=hide (fun V hV=>by have h:=hTY V hV;unfold ToM at h;exact h)
   unfold MoL.cs Sl.val vputF at HTY
   simp only[hfl]at HTY
   unfold ToM at HTX
   clear hle2 hAA hAB hBAD hGOOD hG hB9 hY9 hrF hM9 hS9 hfl hsame hgl hPL hUF hTY hLA hLB hwh hno ho hst hbr hlt
   go_wp2_with fail
   refine wp_region_factsR grew_ext (factsOf [fun yy _=>yy=.agg #[.slice m.sigs.at_ m.sigs.l.length m.sigs.cap,.slice m.imps.at_ m.imps.l.length m.imps.cap,.slice m.funcs.at_ m.funcs.l.length m.funcs.cap,.int .i64 m.table,.slice m.mems.at_ m.mems.l.length m.mems.cap,.slice m.gls.at_ m.gls.l.length m.gls.cap,.slice m.exs.at_ m.exs.l.length m.exs.cap,.int .i64 m.start,.slice m.els.at_ m.els.l.length m.els.cap,.slice m.das.at_ m.das.l.length m.das.cap],
    fun yy WW=>∃gz mz,yy=.pointer (some ⟨gz,0,none⟩)∧Hid (MoAt WW gz mz)∧Hid (mz.g=m.g)∧Hid (MoSm mz),
    fun yy WW=>∃Az nz cz,yy=.slice Az nz cz∧nz=LA.length∧WW.ownsRow wr.heap.size 51 4 (.slice Az nz cz) nz (LA.flatMap fndD),
    fun yy _=>yy=.agg #[.slice m.sigs.at_ m.sigs.l.length m.sigs.cap,.slice m.imps.at_ m.imps.l.length m.imps.cap,.slice A3 m.funcs.l.length q3,.int .i64 m.table,.slice m.mems.at_ m.mems.l.length m.mems.cap,.slice m.gls.at_ m.gls.l.length m.gls.cap,.slice m.exs.at_ m.exs.l.length m.exs.cap,.int .i64 m.start,.slice m.els.at_ m.els.l.length m.els.cap,.slice m.das.at_ m.das.l.length m.das.cap],
    fun yy WW=>∃gz mz,yy=.pointer (some ⟨gz,0,none⟩)∧Hid (MoAt WW gz mz)∧Hid (mz.g=G)∧Hid (MoSm mz),
    fun yy WW=>∃Az nz cz,yy=.slice Az nz cz∧nz=LB.length∧WW.ownsRow wr.heap.size 51 4 (.slice Az nz cz) nz (LB.flatMap fndD),
    fun yy WW=>∃Az nz cz,yy=.slice Az nz cz∧nz=LA.length∧WW.ownsRow wr.heap.size 51 4 (.slice Az nz cz) nz (LA.flatMap fndD),
    fun yy WW=>∃Az nz cz,yy=.slice Az nz cz∧nz=LB.length∧WW.ownsRow wr.heap.size 51 4 (.slice Az nz cz) nz (LB.flatMap fndD)]) (by kernel_rfl) (by kernel_rfl) ?_ ?_
   ·refine⟨?_,?_,?_,?_,?_,?_,?_,?_,trivial⟩
    ·refine⟨fun ρ W3 hk=>?_⟩
     have o2:ρ (.tmp 2)=.pointer (some ⟨xg,0,none⟩):=hk.old 2 (by decide)
     exact OpOut.load (x:=.tmp 2) rfl o2 (run_loadM (HIN.out.cells W3 (HB9.out.trans (hk.below.mono HB9.out.size))).1) ⟨Below.refl _ _,rfl⟩
    ·refine⟨fun ρ W3 hk=>?_⟩
     have h0:=(hk.fact 0 55 (by decide) rfl).pure
     refine OpOut.fn (args:=#[.agg #[.slice m.sigs.at_ m.sigs.l.length m.sigs.cap,.slice m.imps.at_ m.imps.l.length m.imps.cap,.slice m.funcs.at_ m.funcs.l.length m.funcs.cap,.int .i64 m.table,.slice m.mems.at_ m.mems.l.length m.mems.cap,.slice m.gls.at_ m.gls.l.length m.gls.cap,.slice m.exs.at_ m.exs.l.length m.exs.cap,.int .i64 m.start,.slice m.els.at_ m.els.l.length m.els.cap,.slice m.das.at_ m.das.l.length m.das.cap]]) rfl (hk.func _) (by simp[h0]) Tryz.func8 (by kernel_rfl) rfl ?_
     refine(HTX.out W3 (HB9.out.trans (hk.below.mono HB9.out.size))).mono ?_;rintro e w5 ⟨gz,mz,rfl,hM5,hg5,hs5,hb5⟩
     exact⟨_,rfl,hb5.out,gz,mz,rfl,hM5,hg5,hs5⟩
    ·refine⟨fun ρ W3 hk=>?_⟩
     obtain⟨u1,hu1,gz1,mz1,h1,hM1,hg1,hs1⟩:=hk.fact 1 56 (by decide) rfl
     refine OpOut.fn (args:=#[.pointer (some ⟨gz1,0,none⟩)]) rfl (hk.func _) (by simp[h1]) Tryz.func12 (by kernel_rfl) rfl ?_
     refine(HAA.out W3 gz1 mz1 (HB9.out.trans (hk.below.mono HB9.out.size)) (hide (hM1.out.below hu1)) hg1 hs1).mono ?_;rintro e w5 ⟨Az,nz,cz,rfl,hnz,ho5,hb5⟩
     exact⟨_,rfl,hb5.out,Az,nz,cz,rfl,hnz,own_base ho5.out (fun q hq=>by have:=own_ge ho5.out q hq;have:=hk.below.size;omega)⟩
    ·refine⟨fun ρ W3 hk=>?_⟩
     have o5:ρ (.tmp 5)=.pointer (some ⟨yg,0,none⟩):=hk.old 5 (by decide)
     exact OpOut.load (x:=.tmp 5) rfl o5 (run_loadMB ((hk.below.block yg (blk_lt HXr.out)).trans HXr.out)) ⟨Below.refl _ _,rfl⟩
    ·refine⟨fun ρ W3 hk=>?_⟩
     have h3:=(hk.fact 3 58 (by decide) rfl).pure
     refine OpOut.fn (args:=#[.agg #[.slice m.sigs.at_ m.sigs.l.length m.sigs.cap,.slice m.imps.at_ m.imps.l.length m.imps.cap,.slice A3 m.funcs.l.length q3,.int .i64 m.table,.slice m.mems.at_ m.mems.l.length m.mems.cap,.slice m.gls.at_ m.gls.l.length m.gls.cap,.slice m.exs.at_ m.exs.l.length m.exs.cap,.int .i64 m.start,.slice m.els.at_ m.els.l.length m.els.cap,.slice m.das.at_ m.das.l.length m.das.cap]]) rfl (hk.func _) (by simp[h3]) Tryz.func8 (by kernel_rfl) rfl ?_
     refine(HTY.out W3 hk.below).mono ?_;rintro e w5 ⟨gz,mz,rfl,hM5,hg5,hs5,hb5⟩
     exact⟨_,rfl,hb5.out,gz,mz,rfl,hM5,hg5.out.trans HGG.out,hs5⟩
    ·refine⟨fun ρ W3 hk=>?_⟩
     obtain⟨u4,hu4,gz4,mz4,h4,hM4,hg4,hs4⟩:=hk.fact 4 59 (by decide) rfl
     refine OpOut.fn (args:=#[.pointer (some ⟨gz4,0,none⟩)]) rfl (hk.func _) (by simp[h4]) Tryz.func12 (by kernel_rfl) rfl ?_
     refine(HAB.out W3 gz4 mz4 (HB9.out.trans (hk.below.mono HB9.out.size)) (hide (hM4.out.below hu4)) hg4 hs4).mono ?_;rintro e w5 ⟨Az,nz,cz,rfl,hnz,ho5,hb5⟩
     exact⟨_,rfl,hb5.out,Az,nz,cz,rfl,hnz,own_base ho5.out (fun q hq=>by have:=own_ge ho5.out q hq;have:=hk.below.size;omega)⟩
    ·refine⟨fun ρ W3 hk=>?_⟩
     obtain⟨u2,hu2,Az2,nz2,cz2,h2,hn2,ho2⟩:=hk.fact 2 57 (by decide) rfl
     exact OpOut.assign (.tmp 57) rfl ⟨Below.refl _ _,Az2,nz2,cz2,h2,hn2,own_only3 (S:=[]) ho2 (Only.of_below hu2) (by simp)⟩
    ·refine⟨fun ρ W3 hk=>?_⟩
     obtain⟨u5,hu5,Az5,nz5,cz5,h5,hn5,ho5⟩:=hk.fact 5 60 (by decide) rfl
     exact OpOut.assign (.tmp 60) rfl ⟨Below.refl _ _,Az5,nz5,cz5,h5,hn5,own_only3 (S:=[]) ho5 (Only.of_below hu5) (by simp)⟩
   intro vs w10 hb10 hf
   obtain⟨u6,hu6,Az6,nz6,cz6,h6,hn6,ho6⟩:=hf 6 (by decide)
   obtain⟨u7,hu7,Az7,nz7,cz7,h7,hn7,ho7⟩:=hf 7 (by decide)
   clear hf
   simp only[fillL]
   go_frame
   have hw10:Below W.heap.size W w10:=HB9.out.trans (hb10.mono HB9.out.size)
   have HB10:=hide hw10
   have HO6:=hide (own_only3 (S:=[]) ho6 (Only.of_below hu6) (by simp))
   have HO7b:=hide (own_only3 (S:=[]) ho7 (Only.of_below hu7) (by simp))
   clear hw10 hu6 hu7 ho6 ho7 HTY HTX HAA HAB
   obtain⟨⟨c0,c1,c2,c3,c4,c5,c6,c7,c8,c9⟩,hin3,_⟩:=HIN.out.cells w10 HB10.out
   clear hin3
   have HU:=HUX.out w10 HB10.out
   unfold UnfP at HU
   rw[HNO.out,HWH.out]at HU
   have HU:=hide HU
   go_wp2_with fail
   refine HU.out.mono ?_;rintro e w11 ⟨rfl,hb11⟩
   have HO6c:=hide (own_only3 (S:=[]) HO6.out (Only.of_below hb11.out) (by simp))
   have HO7c:=hide (own_only3 (S:=[]) HO7b.out (Only.of_below hb11.out) (by simp))
   have HB11:Hid (Below w.heap.size w w11):=HB.out.trans ((HB10.out.trans (hb11.out.mono HB10.out.size)).mono HB.out.size)
   clear HU HO6 HO7b hb11 c0 c1 c2 c3 c4 c5 c6 c7 c8 c9
   by_cases h0:no=0
   ·subst h0
    obtain⟨hp1,hp2⟩:=HGOOD.out rfl
    obtain⟨LF,hLF⟩:∃LF,allF m.g f0=LF:=⟨_,rfl⟩
    have hl1:=allF_len m.g f0
    rw[hLF]at hp1 hp2 hl1
    subst hp1
    have HP2:=hide hp2
    clear hLF hp2 hb10
    have hn6b:nz6≤111:=by rw[hn6];exact HLE.out
    have HN6:=hide hn6;have HN7:=hide hn7
    clear hn6 hn7
    go_wp2_with fail
    go_loopw [11,12] (fun vn i V=>∃(k n:Nat),vn=.int .i64 (n:Int)∧i=.int .i64 (k:Int)∧k≤nz6∧n≤k∧Hid (n=((LA.take k).filter (fun x=>x.fn==(f0:Int))).length)∧Hid (Below w11.heap.size w11 V)) (fun _ i _=>nz6-(intOf i).toNat)
    case atStart=>exact⟨0,0,rfl,rfl,Nat.zero_le _,Nat.le_refl _,hide (by simp),Below.refl _ _⟩
    case round =>
     obtain⟨k,n,rfl,rfl,hk,hnk,hn,hbr⟩:=hrel
     have HOA:=hide (own_only3 (S:=[]) HO6c.out (Only.of_below hbr.out) (by simp))
     have HOB:=hide (own_only3 (S:=[]) HO7c.out (Only.of_below hbr.out) (by simp))
     by_cases hlt:k<nz6
     ·have hki:(k:Int)<(nz6:Int):=by omega
      obtain⟨y,hy⟩:∃y,LA[k]?=some y:=⟨_,List.getElem?_eq_getElem (by rw[←HN6.out];exact hlt)⟩
      obtain⟨q,c9,hv⟩:=own_some HOA.out (by omega)
      injection hv with e1 _ e3
      subst e1
      have y0:=own_cell (g:=q) (dec:=fndD) (fun _=>rfl) HOA.out rfl hy 0 (by omega) _ rfl
      have y1:wr.cell? ⟨q,k*4+1,none⟩=some (.int .i64 y.fn):=own_cell (g:=q) (dec:=fndD) (fun _=>rfl) HOA.out rfl hy 1 (by omega) _ rfl
      have y2:wr.cell? ⟨q,k*4+2,none⟩=some (.int .i64 (y.pl:Int)):=own_cell (g:=q) (dec:=fndD) (fun _=>rfl) HOA.out rfl hy 2 (by omega) _ rfl
      have y3:wr.cell? ⟨q,k*4+3,none⟩=some (.int .i64 (y.er:Int)):=own_cell (g:=q) (dec:=fndD) (fun _=>rfl) HOA.out rfl hy 3 (by omega) _ rfl
      have hcnt:((LA.take (k+1)).filter (fun x=>x.fn==(f0:Int))).length=n+(if y.fn=(f0:Int)then 1 else 0):=by
       rw[List.take_add_one,hy,List.filter_append,List.length_append,←hn.out]
       by_cases e:y.fn=(f0:Int)
       ·simp[e]
       ·simp[e]
      have HY:=hide hy;have HCNT:=hide hcnt
      clear hy hcnt e3
      by_cases hyf:y.fn=(f0:Int)
      ·have hmem:y∈LB:=by rw[←HP2.out];exact List.mem_filter.2 ⟨List.mem_of_getElem? HY.out,by simpa using hyf⟩
       have hone:LB=[y]:=by
        match LB,hl1,hmem with
        | [],_,h=>cases h
        | [z],_,h=>rw[List.mem_singleton.1 h]
        | _::_::_,h,_=>simp at h
       subst hone
       rw[hyf]at y1
       have hz:nz7=1:=HN7.out
       subst hz
       obtain⟨q2,c8,hv⟩:=own_some HOB.out (by omega)
       injection hv with e1 _ e3
       subst e1
       have z0:wr.cell? ⟨q2,0,none⟩=some (.string ⟨y.wh.toArray⟩):=by have h:=own_cell (g:=q2) (dec:=fndD) (fun _=>rfl) HOB.out rfl (i:=0) (x:=y) rfl 0 (by omega) _ rfl;simpa using h
       have z1:wr.cell? ⟨q2,1,none⟩=some (.int .i64 (f0:Int)):=by have h:=own_cell (g:=q2) (dec:=fndD) (fun _=>rfl) HOB.out rfl (i:=0) (x:=y) rfl 1 (by omega) _ rfl;rw[hyf]at h;simpa using h
       have z2:wr.cell? ⟨q2,2,none⟩=some (.int .i64 (y.pl:Int)):=by have h:=own_cell (g:=q2) (dec:=fndD) (fun _=>rfl) HOB.out rfl (i:=0) (x:=y) rfl 2 (by omega) _ rfl;simpa using h
       have z3:wr.cell? ⟨q2,3,none⟩=some (.int .i64 (y.er:Int)):=by have h:=own_cell (g:=q2) (dec:=fndD) (fun _=>rfl) HOB.out rfl (i:=0) (x:=y) rfl 3 (by omega) _ rfl;simpa using h
       have y0:wr.cell? ⟨q,k*4,none⟩=some (.string ⟨y.wh.toArray⟩):=y0
       have hnew:Hid (n+1=((LA.take (k+1)).filter (fun x=>x.fn==(f0:Int))).length):=by show _=_;rw[HCNT.out,if_pos hyf]
       have HNE:=fun V=>run_neq_fnd ⟨y.wh,(f0:Int),y.pl,y.er⟩ V
       simp only at HNE
       have HYF:=hide hyf;have HMEM:=hide hmem
       clear hn HY HCNT hyf hmem e3 HP2 hl1 HN7
       go_wp2_with fail
       go_quiet (fail)
       go_wp2_with fail
       go_roundw
       case rel=>exact⟨k+1,n+1,by go_num,by go_num,by omega,by omega,hnew,below_dr hbr.out _⟩
       case measure=>simp[intOf]<;>omega
      ·have hyn:(y.fn != (f0:Int))=true:=by simpa using hyf
       have hnew:Hid (n=((LA.take (k+1)).filter (fun x=>x.fn==(f0:Int))).length):=by show _=_;rw[HCNT.out,if_neg hyf];rfl
       clear hn HY HCNT hyf y0 y2 y3
       go_wp2_with fail
       go_roundw
       case rel=>exact⟨k+1,n,rfl,by go_num,by omega,by omega,hnew,hbr⟩
       case measure=>simp[intOf]<;>omega
     ·have hkn:k=nz6:=by omega
      subst hkn
      have hle:¬((k:Int)<(k:Int)):=by omega
      have hnl:n=nz7:=by rw[hn.out,HN7.out,List.take_of_length_le (by rw[HN6.out];exact Nat.le_refl _),HP2.out]
      have hn1:n≤1:=by rw[hnl,HN7.out];exact hl1
      have hni:(n:Int)≤1:=by omega
      subst hnl
      clear hl1 HP2 HN6 HN7 hn hlt
      go_wp2_with fail
      go_ret
      exact⟨rfl,HB11.out.trans (hbr.out.mono HB11.out.size)⟩
   ·obtain⟨ha,hb⟩:=HBAD.out h0
    subst ha;subst hb
    have hn6':nz6=1:=hn6
    have hn7':nz7=1:=hn7
    subst hn6' hn7'
    have hn0:((no:Int) != 0)=true:=by simp;omega
    obtain⟨q,c9,hv⟩:=own_some HO6c.out (by omega)
    injection hv with e1 _ e3
    subst e1
    obtain⟨q2,c8,hv⟩:=own_some HO7c.out (by omega)
    injection hv with e1 _ e4
    subst e1
    have HE:=fun V=>run_eql_fnd ⟨wh,-1,0,no⟩ V
    simp only at HE
    have y0:w11.cell? ⟨q,0,none⟩=some (.string ⟨wh.toArray⟩):=by have h:=own_cell (g:=q) (dec:=fndD) (fun _=>rfl) HO6c.out rfl (i:=0) (x:=⟨wh,-1,0,no⟩) rfl 0 (by omega) _ rfl;simpa using h
    have y1:w11.cell? ⟨q,1,none⟩=some (.int .i64 (-1)):=by have h:=own_cell (g:=q) (dec:=fndD) (fun _=>rfl) HO6c.out rfl (i:=0) (x:=⟨wh,-1,0,no⟩) rfl 1 (by omega) _ rfl;simpa using h
    have y2:w11.cell? ⟨q,2,none⟩=some (.int .i64 0):=by have h:=own_cell (g:=q) (dec:=fndD) (fun _=>rfl) HO6c.out rfl (i:=0) (x:=⟨wh,-1,0,no⟩) rfl 2 (by omega) _ rfl;simpa using h
    have y3:w11.cell? ⟨q,3,none⟩=some (.int .i64 (no:Int)):=by have h:=own_cell (g:=q) (dec:=fndD) (fun _=>rfl) HO6c.out rfl (i:=0) (x:=⟨wh,-1,0,no⟩) rfl 3 (by omega) _ rfl;simpa using h
    have z0:w11.cell? ⟨q2,0,none⟩=some (.string ⟨wh.toArray⟩):=by have h:=own_cell (g:=q2) (dec:=fndD) (fun _=>rfl) HO7c.out rfl (i:=0) (x:=⟨wh,-1,0,no⟩) rfl 0 (by omega) _ rfl;simpa using h
    have z1:w11.cell? ⟨q2,1,none⟩=some (.int .i64 (-1)):=by have h:=own_cell (g:=q2) (dec:=fndD) (fun _=>rfl) HO7c.out rfl (i:=0) (x:=⟨wh,-1,0,no⟩) rfl 1 (by omega) _ rfl;simpa using h
    have z2:w11.cell? ⟨q2,2,none⟩=some (.int .i64 0):=by have h:=own_cell (g:=q2) (dec:=fndD) (fun _=>rfl) HO7c.out rfl (i:=0) (x:=⟨wh,-1,0,no⟩) rfl 2 (by omega) _ rfl;simpa using h
    have z3:w11.cell? ⟨q2,3,none⟩=some (.int .i64 (no:Int)):=by have h:=own_cell (g:=q2) (dec:=fndD) (fun _=>rfl) HO7c.out rfl (i:=0) (x:=⟨wh,-1,0,no⟩) rfl 3 (by omega) _ rfl;simpa using h
    clear e3 e4 h0 hb10 hn6 hn7 HBAD HGOOD
    go_wp2_with fail
    go_quiet (fail)
    go_wp2_with fail
    go_ret
    exact⟨rfl,below_dr HB11.out _⟩
theorem ValidAlone_o0 {H:Type} {enc:TypeId×Value→H} {w:World}:Opens enc Tryz.prog w 31 moD (moOk w):=mo_opens
theorem ValidAlone_walk (s0:MoA) (f:Int) (w:World) (h:moOk w s0) (hf:(Lit.int .i64 f).wf=true) (hP:LaidV w) :
  Calls Tryz.prog 4 #[.agg (moD s0).toArray,.int .i64 f] w fun e w'=>e=.returned (.bool true)∧Below w.heap.size w w':=by
 obtain⟨ml,hml⟩:=hP
 rw[←moL_cs]
 exact validalone_any (moL s0) f w ml (mo_in h) (mo_re h) hml
end Go.Proofs.YtmekgpdfiimofaaGreatDoor
namespace Go.Proofs.YtmekgpdfiimofaaGreatDoor
variable {H:Type} {enc:TypeId×Value→H}
theorem handed_shaped {a:Assume} {C:Checked} {os:Os} {f:FuncId} {fn:Func} {s:ChangeSpec} {conds:List PathCond} {apart fresh handsOn again:Bool} {X:World→Array Value→Prop}
  (hX:∀(w w':World) (args:Array Value),w.heap=w'.heap→X w args→X w' args)
  (own:ownKnob C.prog.godebug=none) (started:os.Started) (noInit:C.prog.inits.idxOf? f=none) (hfn:C.prog.funcs[f]?=some fn)
  (witness:∃(w:World) (tape:Tape) (i:Input),w.os=os∧(w.forCall tape i).Shaped C.prog∧i.vars=[]∧Input.okWide C.prog (w.forCall tape i) .any w.heap.size f i ∧
   ((s.pre enc C.prog fn conds apart (w.forCall tape i).memory i.args∧X (w.forCall tape i).memory i.args)∧sizedMet enc C.prog fn (OpenSpec.ofChange s) apart (w.forCall tape i).memory i.args)∧a.holds C.prog (lone (Frame.enter C.prog f i.args .normal) [] (w.forCall tape i)))
  (contract:∀(W:World) (base:Nat) (args:Array Value) (ds gs:List (DataW H)) (before:List MemPlace),
   (∀(j:Nat) t v,fn.params[j]?=some t→args[j]?=some v→Value.okWide C.prog W .any base t v) →
   DataW.Whole enc C.prog fn.params.toList s.vars apart W args.toList ds gs before →
   conds.all (PathCond.test C.prog ⟨fn.params.toList,ds,s.plain.varTypes C.prog,gs⟩)=true →
   (DataW.weightsEach C.prog (fn.params.toList++s.plain.varTypes C.prog) (ds++gs)).all (·≤reachBytes)=true→X W args→W.ShapedOpen C.prog →
   Calls C.prog f args W fun e W'=>∃v,e=.returned v∧s.post enc C.prog fn apart fresh handsOn again W args v W') :
  ReturnsInHanded a C os f .any (fun w args=>(s.pre enc C.prog fn conds apart w args∧X w args)∧sizedMet enc C.prog fn (OpenSpec.ofChange s) apart w args) (s.post enc C.prog fn apart fresh handsOn again):=by
 refine returnsInHanded_of_calls own started noInit witness ?_
 intro w tape i _ hsh _ hok hpre _
 obtain⟨_,_,_,fn',hfn',_,_,_,_,hval⟩:=hok
 obtain rfl:fn'=fn:=Option.some.inj (hfn'.symm.trans hfn)
 obtain⟨⟨⟨ds,gs,before,hw,hc⟩,hx⟩,hz⟩:=hpre
 refine(contract _ _ _ ds gs before hval (DataW.Whole.of_heap (w':=w.forCall tape i) (by rfl) hw) hc (hz.weights hw) (hX _ _ _ (by rfl) hx) hsh).mono fun e W' ⟨v,he,hp⟩=>?_
 subst he
 exact ChangeSpec.post_blind hp
end Go.Proofs.YtmekgpdfiimofaaGreatDoor
