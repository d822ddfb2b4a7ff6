import Derived.Test.YtomppgohoplemaaGreatNBU
import Derived.Test.YtomppgohoplemaaGreatNBS
import Derived.Test.YtomppgohoplemaaGreatNBR
set_option linter.unusedVariables false
namespace Go.Proofs.YtomppgohoplemaaGreat
open Go.RowKit
theorem reads_blkN {w:World} {g n size:Nat} {cs:List Value} {t:TypeId} (h:w.heap[g]?=some (.cells cs.toArray t (0,0))) (hn:cs.length=n*size):Reads w w.heap.size size (some ⟨g,0,none⟩) n cs:=by
 refine⟨hn,fun _=>⟨_,rfl,blk_lt h,fun j u hu=>?_⟩⟩
 rw[show (⟨g,0,none⟩:Addr).add j=⟨g,j,none⟩from by unfold Addr.add;split<;>simp_all,cell_blk h j]
 simpa using hu
theorem row_blk {α:Type} {w:World} {g size c:Nat} {dec:α→List Value} {l:List α} {t:TypeId} (h:w.heap[g]?=some (.cells (l.flatMap dec).toArray t (0,0))) (hd:∀a,(dec a).length=size) (hc:l.length≤c) (hm:c≤1000):Row w size dec ⟨some ⟨g,0,none⟩,c,l⟩ :=
 ⟨reads_blkN h (flatMap_len hd l),hc,by show c≤_;unfold maxLen;omega⟩
def noSl {α:Type}:Sl α:=⟨none,0,[]⟩
theorem row_none {α:Type} {w:World} {size:Nat} {dec:α→List Value}:Row w size dec (noSl:Sl α):=⟨⟨by simp[noSl],fun h=>absurd h (by simp[noSl])⟩,Nat.le_refl _,Nat.zero_le _⟩
theorem MoSm.sz {m:MoL} (h:MoSm m):MoSz m :=
 ⟨by have:=h.sigs;omega,fun x hx=>by have:=h.sig x hx;omega,by have:=h.imps;omega,by have:=h.funcs;omega,by have:=h.mems;omega,by have:=h.gls;omega,by have:=h.exs;omega,by have:=h.els;omega,fun x hx=>by have:=h.el x hx;omega,by have:=h.das;omega,fun x hx=>by have:=h.da x hx;omega⟩
theorem MoSm.bd {m:MoL} (h:MoSm m):∀y∈m.funcs.l,BdSz y.bd:=fun y hy=>by
 obtain⟨a,b,c⟩:=h.func y hy
 exact⟨by omega,by omega,fun x hx=>by have:=c x hx;omega⟩
end Go.Proofs.YtomppgohoplemaaGreat
namespace Go.Proofs.YtomppgohoplemaaGreat
open Go.RowKit Go.Maps
set_option maxRecDepth 100000 in
set_option maxHeartbeats 1600000 in
theorem new_err (pm:Value) (f:Int) (w:World) (r:List Nat×Nat×Nat) (h:Hid (Calls Tryz.prog 19 #[pm,.int .i64 f] w (HeiP w r))) (hne:r.2.2≠0) :
  Calls Tryz.prog 7 #[pm,.int .i64 f] w fun e w'=>e=.returned (.tuple #[.pointer none,.int .i64 (r.2.2:Int)])∧Hid (Below w.heap.size w w'):=by
 obtain⟨hs,at_,er⟩:=r
 simp only at hne
 have h1:((er:Int) != 0)=true:=by simp;omega
 clear hne
 go_enter Tryz.func7,Tryz.ntmps7
 go_wp2_with fail
 refine h.out.mono ?_;rintro e w1 ⟨A,c,rfl,ho,hb⟩
 go_wp2_with fail
 go_ret2
 exact⟨rfl,hb⟩
theorem order_len (v:SidE) (h:∀j,(v.lab j).length≤200):∀i,(v.order i).length≤200*i
 | 0=>by simp[SidE.order]
 | i+1=>by
  rw[SidE.order_succ,List.length_append,rowJ_len]
  have:=order_len v h i
  have:=h i
  omega
theorem lab_small {x:XI} (h:rightX x=true):∀n∈labelsX x,n≤4294967295:=by
 intro n hn
 obtain⟨r,hr1,hr2,hf⟩:=right_some h
 unfold labelsX at hn
 split at hn
 ·rename_i hc
  have hrf:refForm x.code=2:=by rcases hc with h|h<;>rw[h]<;>rfl
  rw[hrf]at hf
  simp[rightF,small]at hf
  simp at hn
  omega
 ·split at hn
  ·rename_i hc
   have hrf:refForm x.code=3:=by rw[hc];rfl
   rw[hrf]at hf
   simp[rightF,small]at hf
   rcases List.mem_append.1 hn with hn|hn
   ·exact hf.2.1 n hn
   ·simp at hn
    omega
  ·cases hn
def sideE (m:Mo) (f:Nat):SidE:=⟨(m.funcs.getD f noFu).bd.l,(runP m (f:Int)).1,(sigOf m (m.imps.length+f)).r.length,(goN (codesB (m.funcs.getD f noFu).bd) (codesB (m.funcs.getD f noFu).bd) 0 initN).2.2.spans⟩
def NewP (v:SidE) (w:World) (e:Ending) (w':World):Prop :=
 ∃(W0:World) (m:MkS) (vo:Value) (nj nc nk:Nat),e=.returned (.tuple #[.pointer (some ⟨m.sg,0,none⟩),.int .i64 0])∧m.sg=W0.heap.size+3∧Hid (Below w.heap.size w W0)∧Hid (m.e=v)∧Hid (MkOk m)∧Hid (Br W0 w' m vo nj nc nk (v.jumps v.l.length 0) (v.counts v.l.length) v.skips (v.order v.l.length))
theorem spans_ok {cs:List Int} (h:(goN cs cs 0 initN).2.1=0):∀x∈(goN cs cs 0 initN).2.2.spans,0≤x.1∧x.1<x.2.2∧x.2.2<(cs.length:Int)∧x.2.1≤x.2.2:=by
 obtain⟨hi,hc⟩:=goN_inv cs cs 0 initN (by simp) (NInv.init cs) h
 have ho:=hi.clo hc
 intro x hx
 obtain⟨j,hj⟩:=List.mem_iff_getElem?.1 hx
 have b:=hi.beg j x hj
 have c:=hi.cls j x hj (by rw[ho];simp)
 refine⟨b.1,c.1,c.2.1,?_⟩
 rcases hi.els j x hj with e|⟨_,_,_,_,e⟩
 ·omega
 ·rcases e with e|e
  ·rw[ho]at e;simp at e
  ·omega
theorem spans_few {cs:List Int} (h:(goN cs cs 0 initN).2.1=0):(goN cs cs 0 initN).2.2.spans.length≤cs.length:=by
 obtain⟨hi,hc⟩:=goN_inv cs cs 0 initN (by simp) (NInv.init cs) h
 rw[hi.cnt]
 exact Nat.le_trans (List.length_filter_le _ _) (List.length_take_le _ _)
set_option maxRecDepth 100000 in
set_option maxHeartbeats 6400000 in
theorem new_ok (g:Nat) (m2:MoL) (f:Nat) (y:FuL) (w:World) (h:Hid (MoAt w g m2)) (hs:Hid (MoSm m2)) (hu:Hid ((unfitP m2.g).2=0)) (hy:m2.funcs.l[f]?=some y) (he:Hid (errB y.bd.g=0)) (hr0:Hid ((runP m2.g (f:Int)).2.2=0))
  (hH:Hid (Calls Tryz.prog 19 #[.pointer (some ⟨g,0,none⟩),.int .i64 (f:Int)] w (HeiP w (runP m2.g (f:Int))))) :
  Calls Tryz.prog 7 #[.pointer (some ⟨g,0,none⟩),.int .i64 (f:Int)] w (NewP (sideE m2.g f) w):=by
 have hym:=List.mem_of_getElem? hy
 have hbl:=hs.out.func y hym
 have hlt:=lt_some hy
 have z1:=hs.out.imps;have z2:=hs.out.funcs;have z3:=hs.out.sigs
 obtain⟨fi,hfi⟩:∃fi:Nat,m2.imps.l.length+f=fi:=⟨_,rfl⟩
 obtain⟨s,hs1,hs2,hs3⟩:=fit_sig hu.out (f:=fi) (by omega)
 have hfl:m2.g.funcs.getD f noFu=y.g:=getD_some (by simp[MoL.g,hy])
 have hrb:runP m2.g (f:Int)=runB2 m2.g f:=by
  unfold runP
  rw[if_neg (fun q=>q hu.out),if_pos (inB_iff.2 ⟨by omega,by simp[MoL.g];omega⟩),Int.toNat_natCast,hfl,if_neg (fun q=>q he.out)]
 obtain⟨hright,_,hnest⟩:=errB_ok he.out
 have hlen2:y.bd.g.l.length=y.bd.l.l.length:=by simp[BdL.g]
 have hz:=hs.out.sz
 have hr1:(runC (stepX (peOf m2.g f)) y.bd.g.l (ps0 (peOf m2.g f).r) 0 []).2.2=0:=by
  have:=hr0.out
  rw[hrb]at this
  unfold runB2 at this
  rw[hfl]at this
  exact this
 have hre:(runP m2.g (f:Int)).1=(runC (stepX (peOf m2.g f)) y.bd.g.l (ps0 (peOf m2.g f).r) 0 []).1:=by
  rw[hrb]
  unfold runB2
  rw[hfl]
  rfl
 have hpr:(peOf m2.g f).r.length≤1000:=by
  show (sigOf m2.g (m2.g.imps.length+f)).r.length≤1000
  unfold sigOf
  exact MoL.sigs_r hz _
 obtain⟨hh1,hh2⟩:=runC_heights (v:=peOf m2.g f) (cs:=codesB y.bd.g) (fun i=>MoL.sigs_r hz i) y.bd.g.l 0 _ _ [] (RunI.start hnest hpr) (fun x hx=>by obtain⟨r,h,_⟩:=right_some (hright x hx);rw[h];rfl) rfl (by simp) hr1
 rw[←hre]at hh1 hh2
 rw[Nat.zero_add,hlen2]at hh1 hh2
 have hll:=hbl.l
 obtain⟨cs,hcs⟩:∃cs,codesB y.bd.g=cs:=⟨_,rfl⟩
 have hcsl:cs.length=y.bd.l.l.length:=by rw[←hcs];simp[codesB,BdL.g]
 have hn0:(goN cs cs 0 initN).2.1=0:=by rw[←hcs];exact hnest
 obtain⟨sp,hsp⟩:∃sp,(goN cs cs 0 initN).2.2.spans=sp:=⟨_,rfl⟩
 have hso:=spans_ok hn0
 have hsf:=spans_few hn0
 rw[hsp]at hso hsf
 obtain⟨hv,hhv⟩:∃hv,(runP m2.g (f:Int)).1=hv:=⟨_,rfl⟩
 rw[hhv]at hh1 hh2
 have hside:sideE m2.g f=⟨y.bd.l.l.map XL.x,hv,s.r.l.length,sp⟩:=by
  unfold sideE
  rw[hfl,hhv,show m2.g.imps.length+f=fi by simp[MoL.g];omega,hs3]
  show (⟨_,_,_,(goN (codesB y.bd.g) (codesB y.bd.g) 0 initN).2.2.spans⟩:SidE)=_
  rw[hcs,hsp]
  rfl
 obtain⟨RR,hRR⟩:∃RR,runP m2.g (f:Int)=RR:=⟨_,rfl⟩
 obtain⟨R1,R2,R3⟩:=RR
 rw[hRR]at hhv
 have hR3:R3=0:=by have:=hr0.out;rw[hRR]at this;exact this
 simp only at hhv
 subst hhv;subst hR3
 rw[hRR]at hH
 rw[hside]
 have HSP:=hide (fun (V:World) (hV:Below w.heap.size w V)=>spans_any y.bd.l.at_ y.bd.l.l.length y.bd.l.cap V _ _ (hide (XL.il ((h.out.below hV).in_.func y hym).2)) (by omega))
 rw[hcs]at HSP
 have HSG:=hide (fun V (hV:Below w.heap.size w V)=>msig_any g m2 (fi:Int) V (hide (h.out.below hV)) (by omega) (by omega) (by omega) (by omega) (by omega))
 rw[hs1]at HSG
 simp only[sigV,Sl.val]at HSG
 have h3:(f:Int)<(m2.funcs.l.length:Int):=by omega
 have sfi:(m2.imps.l.length:Int)+(f:Int)=(fi:Int):=by omega
 have HN0:=hide hn0;have HSPE:=hide hsp;have HSO:=hide hso;have HH2:=hide hh2;have HY:=hide hy;have HYM:=hide hym;have HRT:=hide hright;have HBL:=hide hbl;have HH1:=hide hh1;have HS2:=hide hs2
 clear hr1 hre hpr hh1 hh2 hn0 hsp hso hside hRR hcs hrb hfl hright hnest hbl hy hym hs1 hs3 hfi
 go_enter Tryz.func7,Tryz.ntmps7
 go_wp2_with fail
 refine hH.out.mono ?_;rintro e w1 ⟨Ah,ch,rfl,hho,hb1⟩
 have hM1:=h.out.below hb1.out
 obtain⟨_,_,c2,_,_,_,_,_,_,_⟩:=hM1.cells
 obtain⟨ad,ha,_,_,kj⟩:=hM1.in_.funcs.at_ (fun _=>rfl) HY.out
 have q2:w1.cell? ⟨(ad.add (f*3)).block,(ad.add (f*3)).off+2,none⟩=some (.slice y.bd.l.at_ y.bd.l.l.length y.bd.l.cap):=kj 2 (by omega) (by omega) _ rfl
 rw[ha]at c2
 clear kj ha hM1
 go_wp2_with fail
 refine(HSP.out _ hb1.out).mono ?_;rintro e w2 ⟨vs,ss,rfl,hss,hso,hb2⟩
 rw[HN0.out]
 have hB2:=hide (hb1.out.trans (hb2.out.mono hb1.out.size))
 have hss2:ss=sp:=by have:=hss.out;rw[HN0.out,HSPE.out]at this;exact this
 subst hss2
 have hho2:=hide (own_only3 (S:=[]) hho.out (Only.of_below hb2.out) (by simp))
 have hM2:=h.out.below hB2.out
 obtain⟨_,c1,_,_,_,_,_,_,_,_⟩:=hM2.cells
 obtain⟨As,cs2,hvs,_,_⟩:=own_form hso.out
 subst hvs
 clear hss c2 q2 hb1 hb2 hho hM2 HSP
 go_wp2_with fail
 refine(HSG.out _ hB2.out).mono ?_;rintro e w3 ⟨rfl,hb3⟩
 have hB3:=hB2.out.trans (hb3.out.mono hB2.out.size)
 obtain⟨W0,hW0,hb4,hx4,hs4⟩:=box_new w3 #[.slice s.p.at_ s.p.l.length s.p.cap,.slice s.r.at_ s.r.l.length s.r.cap] 87
 obtain⟨sb,hsb⟩:∃sb,w3.heap.size=sb:=⟨_,rfl⟩
 rw[hsb]at hx4 hs4
 have hB4:=hB3.trans (hb4.mono hB3.size)
 obtain⟨z,hz2⟩:∃z,W0.heap.size=z:=⟨_,rfl⟩
 have e1:W0.cell? ⟨sb,1,none⟩=some (.slice s.r.at_ s.r.l.length s.r.cap):=cell_blk hx4 1
 have hb24:Below w2.heap.size w2 W0:=hb3.out.trans (hb4.mono hb3.out.size)
 obtain⟨m,hm⟩:∃m:MkS,m=⟨z+1+1+1+1,z+1+1+1,s.r.l.length,y.bd.l,⟨As,cs2,ss⟩,⟨Ah,ch,R1⟩⟩:=⟨_,rfl⟩
 have hbd:=((h.out.below hB4).in_.func y HYM.out).2
 have hspA:SpAt W0.heap.size W0 As ss:=fun k x hx=>by
  have ho:=own_only3 (S:=[]) hso.out (Only.of_below hb24) (by simp)
  have hk:k<ss.length:=(List.getElem?_eq_some_iff.1 hx).1
  obtain⟨q,c9,hv⟩:=own_some ho (by omega)
  injection hv with e1 _ e3
  subst e1
  refine⟨q,0,rfl,(ho.lt q rfl).2,?_,?_,?_⟩
  ·rw[Nat.zero_add];exact own_cell (g:=q) (dec:=spanD) (fun _=>rfl) ho rfl hx 0 (by omega) _ rfl
  ·rw[Nat.zero_add];exact own_cell (g:=q) (dec:=spanD) (fun _=>rfl) ho rfl hx 1 (by omega) _ rfl
  ·rw[Nat.zero_add];exact own_cell (g:=q) (dec:=spanD) (fun _=>rfl) ho rfl hx 2 (by omega) _ rfl
 have hhsA:Row W0 1 nD ⟨Ah,ch,R1⟩:=row_of_own (base:=w.heap.size) (e:=3) (n:=R1.length) (own_cast (own_only3 (S:=[]) hho2.out (Only.of_below hb24) (by simp)) rfl (by rw[List.map_eq_flatMap];rfl)) rfl
 have hMB:MkB W0 m:=by rw[hm];exact⟨hbd.l,hbd.lab,hspA,hhsA,by rw[hz2],by rw[hz2]⟩
 have hOK:MkOk m:=by
  rw[hm]
  refine⟨by show y.bd.l.l.length≤_;omega,by show R1.length=y.bd.l.l.length;exact HH1.out,by show ss.length≤_;omega,fun x hx=>?_,fun q hq=>?_,?_,fun x hx=>?_⟩
  ·have:=HSO.out x hx
   show 0≤x.1∧x.1<x.2.2∧x.2.2<(y.bd.l.l.length:Int)∧x.2.1≤x.2.2
   omega
  ·have:=HH2.out q hq;omega
  ·have:=(hz.sig s HS2.out).2
   show s.r.l.length≤_
   omega
  ·have:=HBL.out.lab x hx;omega
 obtain⟨W5,hW5⟩:∃W5,W0.alloc (.map #[] 0)=W5:=⟨_,rfl⟩
 have hm5:FMap jK W5 z 0 (fun _=>none):=by have:=FMap.made jK W0;rw[hW5,hz2]at this;exact this
 have hs5:W5.heap.size=z+1:=by rw[←hW5,World.size_alloc,hz2]
 have hb5:Below z W0 W5:=by rw[←hW5];exact(Below.refl _ _).alloc (by omega) _
 obtain⟨W6,hW6⟩:∃W6,W5.alloc (.map #[] 0)=W6:=⟨_,rfl⟩
 have hm6:FMap iK W6 (z+1) 0 (fun _=>none):=by have:=FMap.made iK W5;rw[hW6,hs5]at this;exact this
 have hs6:W6.heap.size=z+1+1:=by rw[←hW6,World.size_alloc,hs5]
 have hb6:Below (z+1) W5 W6:=by rw[←hW6];exact(Below.refl _ _).alloc (by omega) _
 obtain⟨W7,hW7⟩:∃W7,W6.alloc (.map #[] 0)=W7:=⟨_,rfl⟩
 have hm7:FMap iK W7 (z+1+1) 0 (fun _=>none):=by have:=FMap.made iK W6;rw[hW7,hs6]at this;exact this
 have hs7:W7.heap.size=z+1+1+1:=by rw[←hW7,World.size_alloc,hs6]
 have hb7:Below (z+1+1) W6 W7:=by rw[←hW7];exact(Below.refl _ _).alloc (by omega) _
 obtain⟨W8,hW8,hb8,hx8,hs8⟩:=box_new W7 #[.map (some z),.map (some (z+1)),.map (some (z+1+1)),.slice none 0 0] 95
 rw[hs7]at hb8 hx8 hs8
 obtain⟨W9,hW9,hb9,hx9,hs9⟩:=box_new W8 #[.slice y.bd.l.at_ y.bd.l.l.length y.bd.l.cap,.slice As ss.length cs2,.slice Ah R1.length ch,.int .i64 (s.r.l.length:Int),.pointer (some ⟨z+1+1+1,0,none⟩)] 97
 rw[hs8]at hb9 hx9 hs9
 have hBr:Br W0 W9 m (.slice none 0 0) 0 0 0 (m.e.jumps 0 0) (m.e.counts 0) (fun _=>none) (m.e.order 0):=by
  rw[SidE.jumps_start,SidE.counts_start]
  have b78:=hb8.mono (show z≤z+1+1+1 by omega)
  refine⟨?_,?_,?_,?_,?_,?_,?_⟩
  ·rw[hz2];exact(((hb5.trans (hb6.mono (by omega))).trans (hb7.mono (by omega))).trans (hb8.mono (by omega))).trans (hb9.mono (by omega))
  ·rw[hz2,hm];exact hx9
  ·rw[hz2];exact(hb9.block _ (by omega)).trans hx8
  ·rw[hz2];exact(((hm5.below (hb6.mono (by omega))).below (hb7.mono (by omega))).below (hb8.mono (by omega))).below (hb9.mono (by omega))
  ·rw[hz2,natF_none];exact((hm6.below (hb7.mono (by omega))).below (hb8.mono (by omega))).below (hb9.mono (by omega))
  ·rw[hz2,natF_none];exact(hm7.below (hb8.mono (by omega))).below (hb9.mono (by omega))
  ·exact own_nil _ _ _ _
 have hml:m.l.l=y.bd.l.l:=by rw[hm]
 have hmb:m.mb=z+1+1+1+1:=by rw[hm]
 have hsg:m.sg=z+1+1+1:=by rw[hm]
 have hmsp:m.sp=⟨As,cs2,ss⟩:=by rw[hm]
 have hme:m.e=⟨y.bd.l.l.map XL.x,R1,s.r.l.length,ss⟩:=by rw[hm];rfl
 have hlabL:∀j,(m.e.lab j).length≤200:=fun j=>by
  by_cases hj:j<y.bd.l.l.length
  ·obtain⟨x,hx⟩:∃x,m.l.l[j]?=some x:=⟨_,List.getElem?_eq_getElem (by rw[hml];exact hj)⟩
   have hlx:=HBL.out.lab x (by rw[←hml];exact List.mem_of_getElem? hx)
   unfold SidE.lab
   rw[xAt_some hx]
   unfold labelsX
   split
   ·simp
   ·split
    ·rw[List.length_append]
     show x.l.l.length+1≤200
     omega
    ·simp
  ·rw[SidE.lab_out _ (by rw[hme];simp;omega)]
   simp
 have hlabN:∀j x,m.l.l[j]?=some x→∀n∈m.e.lab j,n≤4294967295:=fun j x hx n hn=>by
  unfold SidE.lab at hn
  rw[xAt_some hx]at hn
  refine lab_small (HRT.out x.x ?_) n hn
  have:=List.mem_of_getElem? hx
  rw[hml]at this
  exact List.mem_map.2 ⟨x,this,rfl⟩
 have HBRA:Hid (∀(V:World) (k nj nc:Nat) (vo:Value) (x:XL),m.l.l[k]?=some x→nj≤200*k→nc≤k→Br W0 V m vo nj nc 0 (m.e.jumps k 0) (m.e.counts k) (fun _=>none) (m.e.order k)→Calls Tryz.prog 22 #[.pointer (some ⟨z+1+1+1+1,0,none⟩),.int .i64 (k:Int)] V (BrP W0 m k nj nc 0 (fun _=>none) V)):=fun V k nj nc vo x hx h1 h2 hb=>by
  have hk:k<m.l.l.length:=(List.getElem?_eq_some_iff.1 hx).1
  rw[hml]at hk
  have hol:=order_len m.e hlabL k
  have:=branch_any W0 m (hide hMB) (hide hOK) k nj nc 0 (fun _=>none) vo x V hb hx (hlabL k) (hlabN k x hx) (by omega) (by omega) (by omega)
  rw[hmb]at this
  exact this
 have HSKA:Hid (∀(V:World) (x:Spn) (nj nc nk:Nat) (vo:Value) (J:Nat×Nat→Option Jmp) (C K:Nat→Option Nat) (ord:List (Nat×Nat)),x∈ss→nk≤1000000→Br W0 V m vo nj nc nk J C K ord→Calls Tryz.prog 23 #[.pointer (some ⟨z+1+1+1+1,0,none⟩),.agg #[.int .i64 x.1,.int .i64 x.2.1,.int .i64 x.2.2]] V (SkP W0 m nj nc nk vo J C (skipP m.e.l K x) ord V)):=fun V x nj nc nk vo J C K ord hx hnk hb=>by
  obtain⟨x1,x2,x3⟩:=x
  obtain⟨p1,p2,p3,p4⟩:=HSO.out _ hx
  simp only at p1 p2 p3 p4
  rw[hcsl]at p3
  obtain⟨b,rfl⟩:∃b:Nat,x1=(b:Int):=⟨x1.toNat,by omega⟩
  obtain⟨e3,rfl⟩:∃e3:Nat,x3=(e3:Int):=⟨x3.toNat,by omega⟩
  obtain⟨yy,hyy⟩:∃yy,m.l.l[b]?=some yy:=⟨_,List.getElem?_eq_getElem (by rw[hml];omega)⟩
  rw[←hmb]
  by_cases h4:yy.code=4
  ·have hk:skipP m.e.l K ((b:Int),x2,(e3:Int))=if 0≤x2 then updF (updF (updF K b e3) b (x2.toNat+1)) x2.toNat e3 else updF K b e3:=by
    unfold skipP
    simp only[Int.toNat_natCast]
    rw[xAt_some hyy,if_pos (show yy.x.code=4 from h4)]
   rw[hk]
   exact skip_if W0 m (hide hMB) (hide hOK) nj nc nk J C K ord vo b e3 x2 yy V hb hyy h4 hnk (by omega) p4
  ·have hk:skipP m.e.l K ((b:Int),x2,(e3:Int))=K:=by
    unfold skipP
    simp only[Int.toNat_natCast]
    rw[xAt_some hyy,if_neg (show ¬yy.x.code=4 from h4)]
   rw[hk]
   exact skip_no W0 m (hide hMB) (hide hOK) nj nc nk J C K ord vo b x2 (e3:Int) yy V hb hyy h4
 have HSPL:Hid (ss.length≤1000):=by show _≤_;omega
 have HBR:=hide hBr;have HW0:=hide hW0;have HSB:=hide hsb;have HW5:=hide hW5;have HW6:=hide hW6;have HW7:=hide hW7;have HW8:=hide hW8;have HW9:=hide hW9;have HMB:=hide hMB;have HOK:=hide hOK;have HML:=hide hml;have HMBE:=hide hmb;have HSGE:=hide hsg;have HME:=hide hme;have HLL:=hide hlabL;have HMSP:=hide hmsp
 have HB04:Hid (Below w.heap.size w W0):=hB4
 have hmm:=@run_makeMap Tryz.prog
 clear hBr hW0 hsb hW5 hW6 hW7 hW8 hW9 hMB hOK hml hmb hsg hme hmsp hlabL hlabN hB4 hb4 hx4 hs4 hb24 hm hbd hspA hhsA hm5 hs5 hb5 hm6 hs6 hb6 hm7 hs7 hb7 hb8 hx8 hs8 hb9 hx9 hs9 hB3 hb3 hso hho2 hB2 c1
 go_upto_region 7 with fail
 rw[HW0.out,HSB.out]
 go_upto_region 8 with fail
 rw[HW5.out,HW6.out,HW7.out,HW8.out,HW9.out]
 clear hmm e1
 go_wp2_with fail
 go_loopw [15,69] (fun _ c V=>∃(k nj nc:Nat) (vo:Value),c=.int .i64 (k:Int)∧k≤y.bd.l.l.length∧nj≤200*k∧nc≤k∧Hid (Br W0 V m vo nj nc 0 (m.e.jumps k 0) (m.e.counts k) (fun _=>none) (m.e.order k))) (fun _ c _=>y.bd.l.l.length-(intOf c).toNat)
 case atStart=>exact⟨0,0,0,_,rfl,Nat.zero_le _,Nat.zero_le _,Nat.zero_le _,HBR⟩
 case round =>
  obtain⟨k,nj,nc,vo,rfl,hk,hnj,hnc,hbr⟩:=hrel
  by_cases hlt:k<y.bd.l.l.length
  ·have hkl:(k:Int)<(y.bd.l.l.length:Int):=by omega
   obtain⟨x,hx⟩:∃x,m.l.l[k]?=some x:=⟨_,List.getElem?_eq_getElem (by rw[HML.out];exact hlt)⟩
   have HC:=hide (HBRA.out wr k nj nc vo x hx hnj hnc hbr.out)
   clear hx
   go_wp2_with fail
   refine HC.out.mono ?_;rintro e w' ⟨vo2,nj2,nc2,rfl,h1,h2,hbr2⟩
   go_wp2_with fail
   go_roundw
   case rel=>exact⟨k+1,nj2,nc2,vo2,by go_num,by omega,by omega,by omega,hbr2⟩
   case measure=>simp[intOf]<;>omega
  ·have hkn:k=y.bd.l.l.length:=by omega
   subst hkn
   have hle:¬((y.bd.l.l.length:Int)<(y.bd.l.l.length:Int)):=by omega
   clear hlt
   go_wp2_with fail
   go_loopw [17,78] (fun _ c V=>∃(k nk:Nat),c=.int .i64 (k:Int)∧k≤ss.length∧nk≤3*k∧Hid (Br W0 V m vo nj nc nk (m.e.jumps y.bd.l.l.length 0) (m.e.counts y.bd.l.l.length) ((ss.take k).foldl (skipP m.e.l) (fun _=>none)) (m.e.order y.bd.l.l.length))) (fun _ c _=>ss.length-(intOf c).toNat)
   case atStart=>exact⟨0,0,rfl,Nat.zero_le _,Nat.zero_le _,hbr⟩
   case round =>
    obtain⟨k,nk,rfl,hk2,hnk,hbr3⟩:=hrel
    by_cases hlt:k<ss.length
    ·have hkl:(k:Int)<(ss.length:Int):=by omega
     obtain⟨x,hx⟩:∃x,ss[k]?=some x:=⟨_,List.getElem?_eq_getElem hlt⟩
     have hsp9:=(hbr3.out.mkin HMB.out).sp
     rw[HMSP.out]at hsp9
     obtain⟨b,off,hAs,_,d0,d1,d2⟩:=hsp9 k x hx
     simp only at hAs
     obtain⟨wb,hwb,hbb,hxb,_⟩:=box_new wr #[.int .i64 x.1,.int .i64 x.2.1,.int .i64 x.2.2] 100
     obtain⟨bq,hbq⟩:∃bq,wr.heap.size=bq:=⟨_,rfl⟩
     rw[hbq]at hxb
     have g0:wb.cell? ⟨bq,0,none⟩=some (.int .i64 x.1):=cell_blk hxb 0
     have g1:wb.cell? ⟨bq,1,none⟩=some (.int .i64 x.2.1):=cell_blk hxb 1
     have g2:wb.cell? ⟨bq,2,none⟩=some (.int .i64 x.2.2):=cell_blk hxb 2
     have HSK:=hide (HSKA.out wb x nj nc nk vo _ _ _ _ (List.mem_of_getElem? hx) (by have:=HSPL.out;omega) (hbr3.out.below hbb))
     have HX:=hide hx;have HWB:=hide hwb;have HBQ:=hide hbq
     clear hx hwb hbb hxb hbq hsp9 hlt
     rw[hAs]
     go_upto_region 16 with fail
     rw[HWB.out,HBQ.out]
     clear d0 d1 d2
     go_wp2_with fail
     refine HSK.out.mono ?_;rintro e w' ⟨nk2,rfl,h1,hbr4⟩
     rw[←hAs]
     go_wp2_with fail
     go_roundw
     case rel=>exact⟨k+1,nk2,by go_num,by omega,by omega,by rw[List.take_add_one,HX.out,List.foldl_append];exact hbr4⟩
     case measure=>simp[intOf]<;>omega
    ·have hkn:k=ss.length:=by omega
     subst hkn
     have hle2:¬((ss.length:Int)<(ss.length:Int)):=by omega
     have c4:wr.cell? ⟨z+1+1+1+1,4,none⟩=some (.pointer (some ⟨m.sg,0,none⟩)):=by
      have:=hbr3.out.mkr
      rw[hz2]at this
      exact(cell_blk this 4).trans (by unfold MkS.cs;rfl)
     have HF:=hbr3
     rw[List.take_length]at HF
     rw[HME.out]at HF
     clear hbr3 hbr hlt
     go_wp2_with fail
     go_ret2
     refine⟨W0,m,vo,nj,nc,nk,rfl,by rw[HSGE.out,hz2],HB04,HME,HOK,?_⟩
     simp only[List.length_map]
     exact HF
end Go.Proofs.YtomppgohoplemaaGreat
namespace Go.Proofs.YtomppgohoplemaaGreat
open Go.RowKit Go.Maps
set_option maxRecDepth 100000 in
set_option maxHeartbeats 1600000 in
theorem slabel_nil (a b:Int) (w:World) :
  Calls Tryz.prog 14 #[.pointer none,.int .i64 a,.int .i64 b] w fun e w'=>e=.returned (.tuple #[jV ⟨0,0,0⟩,.bool false])∧Hid (Below w.heap.size w w'):=by
 obtain⟨W1,hW1,hb1,hx1,hs1⟩:=box_new w #[.int .i64 0,.int .i64 0,.int .i64 0] 55
 obtain⟨rb,hrb⟩:∃rb,w.heap.size=rb:=⟨_,rfl⟩
 rw[hrb]at hx1
 obtain⟨W2,hW2,hk2,ho2⟩:=store3J hx1 (.int .i64 0) (.int .i64 0) (.int .i64 0)
 have d0:=cell_blk hx1 0;have d1:=cell_blk hx1 1;have d2:=cell_blk hx1 2
 have f0:=frozen_blk hx1 0;have f1:=frozen_blk hx1 1;have f2:=frozen_blk hx1 2
 simp at d0 d1 d2
 have t0:=cell_blk hk2 0;have t1:=cell_blk hk2 1;have t2:=cell_blk hk2 2
 simp at t0 t1 t2
 have HB2:Hid (Below w.heap.size w W2):=hb1.trans (ho2.below hb1.size (by simp;omega))
 have HW1:=hide hW1;have HW2:=hide hW2;have HRB:=hide hrb
 clear hW1 hb1 hx1 hs1 hrb hW2 hk2 ho2
 go_enter Tryz.func14,Tryz.ntmps14
 go_upto_region 1 with fail
 rw[HW1.out,HRB.out]
 go_wp2_with fail
 rw[HW2.out]
 refine bodyPost_ret (v:=.tuple #[jV ⟨0,0,0⟩,.bool false]) (by unfold jV;simp[results,Tryz.results14,go_sem,t0,t1,t2]) rfl ?_
 exact⟨rfl,HB2⟩
section
variable {W0:World} {m:MkS} {vo:Value} {nj nc nk:Nat} {J:Nat×Nat→Option Jmp} {C K:Nat→Option Nat} {ord:List (Nat×Nat)}
set_option maxRecDepth 100000 in
set_option maxHeartbeats 1600000 in
theorem slabel_any (w:World) (h:Hid (Br W0 w m vo nj nc nk J C K ord)) (sg:Nat) (hsg:sg=W0.heap.size+3) (a b:Nat) (ha:a≤1000000) (hb:b≤1000000) (d:Jmp) (hd:J (a,b)=some d) :
  Calls Tryz.prog 14 #[.pointer (some ⟨sg,0,none⟩),.int .i64 (a:Int),.int .i64 (b:Int)] w fun e w'=>e=.returned (.tuple #[jV d,.bool true])∧Hid (Below w.heap.size w w'):=by
 obtain⟨W1,hW1,hb1,hx1,hs1⟩:=box_new w #[.int .i64 0,.int .i64 0,.int .i64 0] 55
 have hBr:=h.out.below hb1
 obtain⟨q1,q2,q3⟩:=d
 obtain⟨W2,hW2,hb2,hx2,hs2⟩:=box_new W1 #[.int .i64 (q1:Int),.int .i64 (q2:Int),.int .i64 (q3:Int)] 55
 obtain⟨rb,hrb⟩:∃rb,w.heap.size=rb:=⟨_,rfl⟩
 obtain⟨xb,hxb⟩:∃xb,W1.heap.size=xb:=⟨_,rfl⟩
 rw[hrb]at hx1 hs1
 rw[hxb]at hx2
 have c0:W1.cell? ⟨sg,0,none⟩=some (.map (some W0.heap.size)):=by rw[hsg];exact cell_blk hBr.blk 0
 have hlk:(Instr.lookup 91 (.map (some W0.heap.size)) (.agg #[.int .i64 (a:Int),.int .i64 (b:Int)]) true).run Tryz.prog W1=.ok (.tuple #[.agg #[.int .i64 (q1:Int),.int .i64 (q2:Int),.int .i64 (q3:Int)],.bool true]) W1:=by
  have:=hBr.j.look (x:=(a,b)) ⟨by omega,by omega⟩
  rw[hd]at this
  exact this
 have hx12:=(hb2.block rb (by omega)).trans hx1
 obtain⟨W3,hW3,hk3,ho3⟩:=store3J hx12 (.int .i64 (q1:Int)) (.int .i64 (q2:Int)) (.int .i64 (q3:Int))
 have d0:=cell_blk hx12 0;have d1:=cell_blk hx12 1;have d2:=cell_blk hx12 2
 have f0:=frozen_blk hx12 0;have f1:=frozen_blk hx12 1;have f2:=frozen_blk hx12 2
 have y0:=cell_blk hx2 0;have y1:=cell_blk hx2 1;have y2:=cell_blk hx2 2
 simp at d0 d1 d2 y0 y1 y2
 have t0:=cell_blk hk3 0;have t1:=cell_blk hk3 1;have t2:=cell_blk hk3 2
 simp at t0 t1 t2
 have hb12:Below w.heap.size w W2:=hb1.trans (hb2.mono hb1.size)
 have HB3:Hid (Below w.heap.size w W3):=hb12.trans (ho3.below hb12.size (by simp;omega))
 have HW1:=hide hW1;have HW2:=hide hW2;have HW3:=hide hW3;have HRB:=hide hrb;have HXB:=hide hxb
 clear hW1 hb1 hx1 hs1 hBr hW2 hb2 hx2 hs2 hrb hxb hx12 hW3 hk3 ho3 hb12 hd hsg
 go_enter Tryz.func14,Tryz.ntmps14
 go_upto_region 1 with fail
 rw[HW1.out,HRB.out]
 go_upto_region 4 with fail
 rw[HW2.out,HXB.out]
 go_wp2_with fail
 rw[HW3.out]
 refine bodyPost_ret (v:=.tuple #[jV ⟨q1,q2,q3⟩,.bool true]) (by unfold jV;simp[results,Tryz.results14,go_sem,t0,t1,t2]) rfl ?_
 exact⟨rfl,HB3⟩
end
theorem scount_nil (a:Int) (w:World):Calls Tryz.prog 13 #[.pointer none,.int .i64 a] w fun e w'=>e=.returned (.int .i64 0)∧w=w':=by
 go_enter Tryz.func13,Tryz.ntmps13
 go_wp2_with fail
 go_ret
 exact⟨rfl,rfl⟩
theorem slen_nil (w:World):Calls Tryz.prog 12 #[.pointer none] w fun e w'=>e=.returned (.int .i64 0)∧w=w':=by
 go_enter Tryz.func12,Tryz.ntmps12
 go_wp2_with fail
 go_ret
 exact⟨rfl,rfl⟩
theorem sskip_nil (a:Int) (w:World):Calls Tryz.prog 17 #[.pointer none,.int .i64 a] w fun e w'=>e=.returned (.tuple #[.int .i64 0,.bool false])∧w=w':=by
 go_enter Tryz.func17,Tryz.ntmps17
 go_wp2_with fail
 go_ret2
 exact⟨rfl,rfl⟩
theorem sput_nil (v:Value) (w:World):Calls Tryz.prog 10 #[.pointer none,v] w fun e w'=>e=.returned (.tuple #[.int .i64 0,.int .i64 12])∧w=w':=by
 go_enter Tryz.func10,Tryz.ntmps10
 go_wp2_with fail
 go_ret2
 exact⟨rfl,rfl⟩
section
variable {P:Program} {o:Oper} {ρ:Operand→Value} {W W':World} {post:Value→World→Prop} {v:Value}
end
section
variable {W0:World} {m:MkS} {vo:Value} {nj nc nk:Nat} {J:Nat×Nat→Option Jmp} {C K:Nat→Option Nat} {ord:List (Nat×Nat)}
end
end Go.Proofs.YtomppgohoplemaaGreat
