import Derived.Test.YtmekgpdfiimofaaGreatDoorVBP
import Derived.Handed
import Derived.ShapedOpen
import Derived.Test.YtmekgpdfiimofaaGreatDoorRows
import Derived.RowKit
import Derived.SizedLaws
set_option linter.unusedVariables false
namespace Go.Proofs.YtmekgpdfiimofaaGreatDoor
open Go.RowKit
set_option maxRecDepth 100000 in
set_option maxHeartbeats 6400000 in
theorem validstops_any (m:MoL) (w:World) (ml:Int) (h:Hid (MoIn w m)) (hr:Hid (MoRe m)) (hml:Hid (w.cell? ⟨1,0,none⟩=some (.int .i64 ml))) :
  Calls Tryz.prog 3 #[.agg m.cs.toArray] w fun e w'=>e=.returned (.bool true)∧Hid (Below w.heap.size w w'):=by
 obtain⟨W,xg,hW,hxg,hb,hin⟩:=vin_of h.out hml.out
 have HIN:=hide hin;have HW:=hide hW;have HXG:=hide hxg;have HB:=hide hb
 clear hW hxg hb hin
 have HG:=hide (fun (V:World) (hV:Below W.heap.size W V)=>great7_any m V (hide (HIN.out.cells V hV).2.1) hr)
 have HA:Hid (∀V,Below W.heap.size W V→Calls Tryz.prog 6 #[] V fun e w'=>e=.returned (.bool true)∧Hid (Below V.heap.size V w')):=fun V hV=>awake17 V ml (hide (HIN.out.cells V hV).2.2)
 have HPL:=hide (fun (V:World) (hV:Below W.heap.size W V) (h8:m.mems.l.length≤8)=>plain14_any m V (hide (HIN.out.cells V hV).2.1) h8)
 unfold MoL.cs Sl.val at HW HG HPL ⊢
 go_enter Tryz.func3,Tryz.ntmps3
 go_upto_region 1 with fail
 rw[HW.out,HXG.out]
 obtain⟨⟨c0,c1,c2,c3,c4,c5,c6,c7,c8,c9⟩,_,_⟩:=HIN.out.cells W (Below.refl _ _)
 go_wp2_with fail
 refine(HG.out W (Below.refl _ _)).mono ?_;rintro e w1 ⟨x,rfl,hx0,hxs,hb1⟩
 clear c0 c1 c2 c3 c4 c5 c6 c7 c8 c9
 by_cases hx:0<x
 ·have hgt:decide ((0:Int)<x)=true:=decide_eq_true hx
  clear hx0
  go_wp2_with fail
  refine(HA.out w1 hb1.out).mono ?_;rintro e w2 ⟨rfl,hb2⟩
  go_wp2_with fail
  go_ret
  exact⟨rfl,HB.out.trans ((hb1.out.trans (hb2.out.mono hb1.out.size)).mono HB.out.size)⟩
 have hxz:x=0:=by omega
 subst hxz
 have HST:Hid (MoSt m):=(hxs.out rfl).1
 have HSM:Hid (MoSm m):=HST.out.sm
 have hn110:m.funcs.l.length≤110:=HSM.out.funcs
 clear hx hx0 hxs HG
 go_wp2_with fail
 refine(HA.out w1 hb1.out).mono ?_;rintro e w2 ⟨rfl,hb2⟩
 have hB2:=hide (hb1.out.trans (hb2.out.mono hb1.out.size))
 clear hb1 hb2 HA
 obtain⟨⟨c0,c1,c2,c3,c4,c5,c6,c7,c8,c9⟩,hin2,_⟩:=HIN.out.cells w2 hB2.out
 clear hin2
 go_wp2_with fail
 refine(HPL.out w2 hB2.out HSM.out.mems).mono ?_;rintro e w3 ⟨A1,q1,rfl,hR3,hb3⟩
 have hB3:=hide (hB2.out.trans (hb3.out.mono hB2.out.size))
 clear c0 c1 c2 c3 c4 c5 c6 c7 c8 c9 hb3 HPL
 obtain⟨yg,hyg⟩:∃yg,w3.heap.size=yg:=⟨_,rfl⟩
 obtain⟨W4,hW4,hb4,hx4,hs4⟩:=box_new w3 #[.slice m.sigs.at_ m.sigs.l.length m.sigs.cap,.slice m.imps.at_ m.imps.l.length m.imps.cap,.slice m.funcs.at_ m.funcs.l.length m.funcs.cap,.int .i64 m.table,.slice A1 m.mems.l.length q1,.slice m.gls.at_ m.gls.l.length m.gls.cap,.slice m.exs.at_ m.exs.l.length m.exs.cap,.int .i64 m.start,.slice m.els.at_ m.els.l.length m.els.cap,.slice m.das.at_ m.das.l.length m.das.cap] 31
 obtain⟨W5,hW5,hb5,hx5,hs5⟩:=box_new W4 #[] 44
 rw[hyg]at hx4 hs4 hb4
 rw[hs4]at hx5 hs5 hb5
 have hB5:Below yg w3 W5:=hb4.trans (hb5.mono (by omega))
 have HBY5:Hid (Below yg w3 W5):=hB5
 have hBW5:Below W.heap.size W W5:=hB3.out.trans (hB5.mono (by have:=hB3.out.size;omega))
 have hxgl:xg<yg:=by have:=World.block_lt_of_cell? w3 _ (HIN.out.cells w3 hB3.out).1.1;rw[hyg]at this;exact this
 have hx45:=(hb5.block yg (by omega)).trans hx4
 have hown5:Hid (W5.ownsRow (yg+1) 44 3 (.slice (some ⟨yg+1,0,none⟩) 0 0) 0 []):=⟨by simp,.inr ⟨yg+1,0,#[],rfl,Nat.le_refl _,hx5,Nat.le_refl _,by unfold maxLen;omega,by simp,by simp⟩⟩
 have hrd5:Hid (Reads W5 W5.heap.size 3 m.funcs.at_ m.funcs.l.length (m.funcs.l.flatMap FuL.cs)):=(HIN.out.cells W5 hBW5).2.1.funcs.r
 have hroom5:Room 0 m.funcs.l.length 56:=room_of (by omega) (by omega)
 have HYG:=hide hyg;have HW4:=hide hW4;have HW5:=hide hW5;have HX45:=hide hx45;have HB5:=hide hBW5;have HS4:=hide hs4;have HS5:=hide hs5
 have hxg4:xg<W4.heap.size:=by omega
 have c24:=((HIN.out.cells W4 (hB3.out.trans (hb4.mono (by have:=hB3.out.size;omega)))).1).2.2.1
 clear hyg hW4 hb4 hx4 hs4 hW5 hb5 hx5 hs5 hB5 hBW5 hx45
 go_upto_region 4 with fail
 rw[HYG.out,HW4.out]
 go_upto_region 5 with (at_builtin;rw[HW5.out];refine wpList_append_any rfl (.tmp 20) (.tmp 22) rfl (yg+1) vf_elem (.slice (some ⟨W4.heap.size,0,none⟩) 0 0) 0 [] rfl (by rw[HS4.out];exact hown5.out) W5.heap.size m.funcs.at_ m.funcs.l.length m.funcs.cap (m.funcs.l.flatMap FuL.cs) rfl hrd5.out vcs_one hroom5 (by have:=HS5.out;omega) ?_;intro v6 w6 ho6 hg6;rw[Nat.zero_add,List.nil_append]at ho6;have HB6:Hid (Below W.heap.size W w6):=HB5.out.grown hg6.by_ HB5.out.size (fun q hq=>by have:=own_ge hown5.out q (by rw[←HS4.out];exact hq);have:=HYG.out;have:=hB3.out.size;omega);have HBY6:Hid (Below yg w3 w6):=HBY5.out.grown hg6.by_ (by have:=HS5.out;omega) (fun q hq=>by have:=own_ge hown5.out q (by rw[←HS4.out];exact hq);omega);have HX6:=hide ((hg6.only.block yg (blk_lt HX45.out) (fun hm=>by have:=own_ge hown5.out yg (by rw[←HS4.out];simpa using hm);omega)).trans HX45.out);obtain⟨A3,q3,hv6,_,_⟩:=own_form ho6;subst hv6;have HO6:=hide ho6;have y2:=cell_blk HX6.out 2;have z2:=frozen_blk HX6.out 2;simp at y2;clear ho6 hg6)
 have hset:Only [yg] w6 (w6.setCell ⟨yg,2,none⟩ (.slice A3 m.funcs.l.length q3)):=Only.setCell w6 (p:=⟨yg,2,none⟩) (by simp) _
 have hx7:=setCell_blk HX6.out 2 (.slice A3 m.funcs.l.length q3)
 have ho7:=own_only3 HO6.out hset (fun q hq hm=>by have:=own_ge HO6.out q hq;simp at hm;omega)
 have hwy:W.heap.size≤yg:=by have:=HYG.out;have:=hB3.out.size;omega
 have hb7:Below W.heap.size W (w6.setCell ⟨yg,2,none⟩ (.slice A3 m.funcs.l.length q3)):=HB6.out.trans (hset.below HB6.out.size (by simp;exact hwy))
 have hby7:Below yg w3 (w6.setCell ⟨yg,2,none⟩ (.slice A3 m.funcs.l.length q3)):=HBY6.out.trans (hset.below (by have:=HBY6.out.size;have:=HYG.out;omega) (by simp))
 obtain⟨W7,hW7⟩:∃W7,w6.setCell ⟨yg,2,none⟩ (.slice A3 m.funcs.l.length q3)=W7:=⟨_,rfl⟩
 rw[hW7]at hx7 ho7 hb7 hby7 ⊢
 simp at hx7
 obtain⟨Q,hQ⟩:∃Q,W7.heap.size=Q:=⟨_,rfl⟩
 have HX7:=hide hx7;have HO7:=hide ho7;have HB7:=hide hb7;have HBY7:=hide hby7;have HQ:=hide hQ
 have hyQ:yg+1≤Q:=by have:=blk_lt hx7;omega
 clear hW7 hx7 ho7 hb7 hby7 hset HO6 HX6 HB6 HBY6 HBY5 HB5 HX45 HW4 HW5 hQ c24 y2 z2 hrd5 hown5
 have HOQ:Hid (∀q,(Value.slice A3 m.funcs.l.length q3).ownBlock=some q→q<Q):=fun q hq=>by have:=(HO7.out.lt q hq).2;have:=HQ.out;omega
 go_wp2_with fail
 go_loopw [4] (fun i V=>∃(k:Nat) (fs:List FuL),i=.int .i64 (k:Int)∧k≤m.funcs.l.length∧Hid (V.ownsRow (yg+1) 44 3 (.slice A3 m.funcs.l.length q3) m.funcs.l.length (fs.flatMap FuL.cs))∧Hid (StpF V Q (fun _=>true) k m.funcs.l fs)∧Hid (Below (yg+1) W7 V)∧Q≤V.heap.size) (fun i _=>m.funcs.l.length-(intOf i).toNat)
 case atStart=>exact⟨0,m.funcs.l,rfl,Nat.zero_le _,HO7,StpF.zero _ _ _ _,Below.refl _ _,Nat.le_of_eq HQ.out.symm⟩
 case round =>
  obtain⟨k,fs,rfl,hk,ho,hst,hbr,hQr⟩:=hrel
  have HXr:=hide ((hbr.out.block yg (by omega)).trans HX7.out)
  have y2:wr.cell? ⟨yg,2,none⟩=some (.slice A3 m.funcs.l.length q3):=by have:=cell_blk HXr.out 2;simpa using this
  by_cases hlt:k<m.funcs.l.length
  ·have hki:(k:Int)<(m.funcs.l.length:Int):=by omega
   obtain⟨y,hy⟩:∃y,m.funcs.l[k]?=some y:=⟨_,List.getElem?_eq_getElem hlt⟩
   have hyf:=hst.out.get hy
   obtain⟨q,c9,hv⟩:=own_some ho.out (by omega)
   injection hv with e1 _ e3
   subst e1
   obtain⟨nb,hnb⟩:∃nb,wr.heap.size=nb:=⟨_,rfl⟩
   have hqQ:q<Q:=HOQ.out q rfl
   have hq1:yg+1≤q:=own_ge ho.out q rfl
   have hqr:q<wr.heap.size:=by omega
   have y3:wr.cell? ⟨q,k*3+1,none⟩=some (.slice y.bd.loc.at_ y.bd.loc.l.length y.bd.loc.cap):=own_cell (g:=q) (dec:=FuL.cs) (fun _=>rfl) ho.out rfl hyf 1 (by omega) _ rfl
   have y4:wr.cell? ⟨q,k*3+1+1,none⟩=some (.slice y.bd.l.at_ y.bd.l.l.length y.bd.l.cap):=own_cell (g:=q) (dec:=FuL.cs) (fun _=>rfl) ho.out rfl hyf 2 (by omega) _ rfl
   have f3:=own_free ho.out (g:=q) rfl (k*3+1)
   have f4:=own_free ho.out (g:=q) rfl (k*3+1+1)
   have hoc:=own_setCell (g:=q) (own_setCell (g:=q) ho.out rfl (k*3+1) (by omega) (.slice none 0 0)) rfl (k*3+2) (by omega) (.slice (some ⟨nb,0,none⟩) 2 2)
   have hod:=stop_own hyf hoc
   obtain⟨Wb,hWb⟩:∃Wb,(wr.setCell ⟨q,k*3+1,none⟩ (.slice none 0 0)).setCell ⟨q,k*3+1+1,none⟩ (.slice (some ⟨nb,0,none⟩) 2 2)=Wb:=⟨_,rfl⟩
   have hon:Only [q] wr Wb:=by rw[←hWb];exact(Only.setCell wr (p:=⟨q,k*3+1,none⟩) (by simp) _).trans (Only.setCell _ (p:=⟨q,k*3+1+1,none⟩) (by simp) _)
   have hsz:Wb.heap.size=nb:=by rw[←hWb,←hnb];simp[World.setCell]
   rw[show k*3+2=k*3+1+1 from rfl,hWb]at hod
   obtain⟨Wc,hWc,hbc,hxc,hsc⟩:=box_new Wb stopCs 38
   rw[hsz]at hbc hxc hsc
   have hoe:=own_only3 (S:=[]) hod (Only.of_below (hbc.mono (by omega))) (by simp)
   have hse:StpF Wc Q (fun _=>true) (k+1) m.funcs.l (fs.set k (stopFu y nb)):=by
    have h1:=(hst.out.only hon (by simp;omega)).below (hbc.mono (by omega))
    exact h1.put rfl hy (by omega) hxc
   have hbe:Below (yg+1) W7 Wc:=by
    have b1:Below (yg+1) W7 Wb:=hbr.out.trans (hon.below (by omega) (by simp;omega))
    exact b1.trans (hbc.mono (by omega))
   have hQc:Q≤Wc.heap.size:=by omega
   unfold stopCs at hWc
   have HWB:=hide hWb;have HWC:=hide hWc;have HOD:=hide hoe;have HSC:=hide hse;have HBC:=hide hbe;have HNB:=hide hnb;have HY:=hide hy
   clear hWb hWc hoc hod hoe hon hsc hbc hxc hsz hse hbe hnb hy hyf e3 ho hst hbr
   go_wp2_with fail
   rw[HNB.out,HWB.out,HWC.out]
   go_roundw
   case rel=>exact⟨k+1,fs.set k (stopFu y nb),by go_num,by omega,HOD,HSC,HBC,hQc⟩
   case measure=>simp[intOf]<;>omega
  ·have hkn:k=m.funcs.l.length:=by omega
   subst hkn
   have hle:¬((m.funcs.l.length:Int)<(m.funcs.l.length:Int)):=by omega
   have hB9:Below W.heap.size W wr:=HB7.out.trans (hbr.out.mono (by have:=HB7.out.size;omega))
   have hY9:Below yg w3 wr:=HBY7.out.trans (hbr.out.mono (by omega))
   have hrF:=(RowF.of_own ho.out hst.out.len.symm).row
   have hrM:=(hR3.out.below (hY9.mono (by have:=HYG.out;omega))).row
   have hM9:MoIn wr (vputF (plainM m A1 q1) A3 q3 fs):=put_in (p:=fun _=>true) (Q:=Q) (k:=m.funcs.l.length) (plain_in (HIN.out.cells wr hB9).2.1 hrM) hrF hst.out
   have hS9:MoSm (vputF (plainM m A1 q1) A3 q3 fs):=put_sm (p:=fun _=>true) (Q:=Q) (k:=m.funcs.l.length) (plain_sm HSM.out) hst.out
   have hfl:fs.length=m.funcs.l.length:=hst.out.len
   have HTO:=hide (lto_any (vputF (plainM m A1 q1) A3 q3 fs) wr (hide hM9) (hide hS9))
   obtain⟨G,hG⟩:∃G,(vputF (plainM m A1 q1) A3 q3 fs).g=G:=⟨_,rfl⟩
   have hgl:G.funcs.length=m.funcs.l.length:=by rw[←hG];show (fs.map FuL.g).length=_;rw[List.length_map,hfl]
   have hall:=all_stop (m:=G) (fun i hi=>by
    rw[hgl]at hi
    rw[←hG]
    exact(put_bd hst.out hi).1 rfl)
   obtain⟨no,hno⟩:∃no,(unfitP G).2=no:=⟨_,rfl⟩
   obtain⟨wh,hwh⟩:∃wh,(unfitP G).1=wh:=⟨_,rfl⟩
   rw[hno]at hall
   have HALL:=hide hall;have HNO:=hide hno;have HWH:=hide hwh;have HGG:=hide hG;have HB9:=hide hB9
   unfold MoL.cs Sl.val vputF plainM at HTO
   simp only[List.length_map,hfl]at HTO
   have z0:=cell_blk HXr.out 0;have z1:=cell_blk HXr.out 1;have z2:=cell_blk HXr.out 2;have z3:=cell_blk HXr.out 3;have z4:=cell_blk HXr.out 4;have z5:=cell_blk HXr.out 5;have z6:=cell_blk HXr.out 6;have z7:=cell_blk HXr.out 7;have z8:=cell_blk HXr.out 8;have z9:=cell_blk HXr.out 9
   simp at z0 z1 z2 z3 z4 z5 z6 z7 z8 z9
   clear z2 hB9 hY9 hrF hrM hM9 hS9 hfl hG hgl hall hno hwh ho hst hbr HX7 HO7 HBY7 HXr hlt
   go_wp2_with fail
   refine HTO.out.mono ?_;rintro e w10 ⟨g2,m2,rfl,hM2,hg2,hs2,hb10⟩
   have hg2b:Hid (m2.g=G):=hg2.out.trans HGG.out
   have HB10:Hid (Below W.heap.size W w10):=HB9.out.trans (hb10.out.mono HB9.out.size)
   have HF:=hide (fit_any g2 m2 w10 hM2 (hide hs2.out.sz))
   rw[hg2b.out,HNO.out,HWH.out]at HF
   clear z0 z1 z3 z4 z5 z6 z7 z8 z9 y2 HTO hg2 hb10
   go_wp2_with fail
   refine HF.out.mono ?_;rintro e w11 ⟨rfl,hb11⟩
   have HN:=hide (vfirst_any (.pointer none) [nilF] w11 (hide fun V _=>vall_nil V))
   go_wp2_with fail
   refine HN.out.mono ?_;rintro e w12 ⟨x,rfl,hx,hb12⟩
   have hxx:x=⟨[],-1,0,12⟩:=hx.out _ _ rfl
   subst hxx
   obtain⟨W13,hW13,hb13,hx13,hs13⟩:=box_new w12 #[.string ⟨#[]⟩,.int .i64 (-1),.int .i64 0,.int .i64 12] 51
   have hM13:=hM2.out.below (hb11.out.trans ((hb12.out.trans (hb13.mono hb12.out.size)).mono hb11.out.size))
   have hB13:Below W.heap.size W W13:=HB10.out.trans ((hb11.out.trans ((hb12.out.trans (hb13.mono hb12.out.size)).mono hb11.out.size)).mono HB10.out.size)
   have HI:=hide (vis_any (.pointer (some ⟨g2,0,none⟩)) (allP G) W13 (hide fun V hV=>vall_any (hide (hM13.below hV)) hg2b hs2 (hide (HIN.out.cells V (hB13.trans (hV.mono hB13.size))).2.2)))
   have HW13:=hide hW13;have HX13:=hide hx13;have HB13:=hide hB13
   clear hW13 hb13 hx13 hs13 hM13 hB13 hb11 hb12 hx HN HF
   go_upto_region 12 with fail
   rw[HW13.out]
   obtain⟨em,hem⟩:∃em,(allP G).isEmpty=em:=⟨_,rfl⟩
   rw[hem]at HI
   have hkey:em=decide (no=0):=by
    rw[←hem,Bool.eq_iff_iff,decide_eq_true_iff,←HALL.out,List.isEmpty_iff]
   clear hem
   subst hkey
   go_wp2_with fail
   refine HI.out.mono ?_;rintro e w14 ⟨rfl,hb14⟩
   have hk14:=(hb14.out.block _ (blk_lt HX13.out)).trans HX13.out
   have d1:=cell_blk hk14 1;have d3:=cell_blk hk14 3
   simp at d1 d3
   have HB14:Hid (Below w.heap.size w w14):=HB.out.trans ((HB13.out.trans (hb14.out.mono HB13.out.size)).mono HB.out.size)
   clear hk14 hb14
   by_cases h0:no=0
   ·subst h0
    rw[show decide (0=0)=true from rfl]
    go_wp2_with fail
    go_ret
    exact⟨rfl,HB14⟩
   ·rw[decide_eq_false h0]
    have hn0:((no:Int)==0)=false:=by simp;omega
    clear h0
    go_wp2_with fail
    go_ret
    exact⟨rfl,HB14⟩
theorem ValidStops_o0 {H:Type} {enc:TypeId×Value→H} {w:World}:Opens enc Tryz.prog w 31 moD (moOk w):=mo_opens
theorem ValidStops_walk (s0:MoA) (w:World) (h:moOk w s0) (hP:LaidV w) :
  Calls Tryz.prog 3 #[.agg (moD s0).toArray] w fun e w'=>e=.returned (.bool true)∧Below w.heap.size w w':=by
 obtain⟨ml,hml⟩:=hP
 rw[←moL_cs]
 exact validstops_any (moL s0) w ml (mo_in h) (mo_re h) hml
end Go.Proofs.YtmekgpdfiimofaaGreatDoor
namespace Go.Proofs.YtmekgpdfiimofaaGreatDoor
variable {H:Type} {enc:TypeId×Value→H}
theorem handed_shaped {a:Assume} {C:Checked} {os:Os} {f:FuncId} {fn:Func} {s:ChangeSpec} {conds:List PathCond} {apart fresh handsOn again:Bool} {X:World→Array Value→Prop}
  (hX:∀(w w':World) (args:Array Value),w.heap=w'.heap→X w args→X w' args)
  (own:ownKnob C.prog.godebug=none) (started:os.Started) (noInit:C.prog.inits.idxOf? f=none) (hfn:C.prog.funcs[f]?=some fn)
  (witness:∃(w:World) (tape:Tape) (i:Input),w.os=os∧(w.forCall tape i).Shaped C.prog∧i.vars=[]∧Input.okWide C.prog (w.forCall tape i) .any w.heap.size f i ∧
   ((s.pre enc C.prog fn conds apart (w.forCall tape i).memory i.args∧X (w.forCall tape i).memory i.args)∧sizedMet enc C.prog fn (OpenSpec.ofChange s) apart (w.forCall tape i).memory i.args)∧a.holds C.prog (lone (Frame.enter C.prog f i.args .normal) [] (w.forCall tape i)))
  (contract:∀(W:World) (base:Nat) (args:Array Value) (ds gs:List (DataW H)) (before:List MemPlace),
   (∀(j:Nat) t v,fn.params[j]?=some t→args[j]?=some v→Value.okWide C.prog W .any base t v) →
   DataW.Whole enc C.prog fn.params.toList s.vars apart W args.toList ds gs before →
   conds.all (PathCond.test C.prog ⟨fn.params.toList,ds,s.plain.varTypes C.prog,gs⟩)=true →
   (DataW.weightsEach C.prog (fn.params.toList++s.plain.varTypes C.prog) (ds++gs)).all (·≤reachBytes)=true→X W args→W.ShapedOpen C.prog →
   Calls C.prog f args W fun e W'=>∃v,e=.returned v∧s.post enc C.prog fn apart fresh handsOn again W args v W') :
  ReturnsInHanded a C os f .any (fun w args=>(s.pre enc C.prog fn conds apart w args∧X w args)∧sizedMet enc C.prog fn (OpenSpec.ofChange s) apart w args) (s.post enc C.prog fn apart fresh handsOn again):=by
 refine returnsInHanded_of_calls own started noInit witness ?_
 intro w tape i _ hsh _ hok hpre _
 obtain⟨_,_,_,fn',hfn',_,_,_,_,hval⟩:=hok
 obtain rfl:fn'=fn:=Option.some.inj (hfn'.symm.trans hfn)
 obtain⟨⟨⟨ds,gs,before,hw,hc⟩,hx⟩,hz⟩:=hpre
 refine(contract _ _ _ ds gs before hval (DataW.Whole.of_heap (w':=w.forCall tape i) (by rfl) hw) hc (hz.weights hw) (hX _ _ _ (by rfl) hx) hsh).mono fun e W' ⟨v,he,hp⟩=>?_
 subst he
 exact ChangeSpec.post_blind hp
end Go.Proofs.YtmekgpdfiimofaaGreatDoor
