import Derived.Test.YtomppgohoplemaaGreatNBP
import Derived.Test.YtomppgohoplemaaGreatNAF
set_option linter.unusedVariables false
namespace Go.Proofs.YtomppgohoplemaaGreat
open Go.RowKit Go.Maps
set_option maxRecDepth 100000
def pairV (p:Nat×Nat):Value:=.agg #[.int .i64 (p.1:Int),.int .i64 (p.2:Int)]
def PairOk (p:Nat×Nat):Prop:=p.1≤9223372036854775807∧p.2≤9223372036854775807
theorem side_laidOut:laidOutB Tryz.prog=true:=by kernel_rfl
theorem side_row:(109:TypeId)<Tryz.prog.types.size:=of_decide_eq_true (by kernel_rfl)
theorem side_wide:(match Tryz.prog.underlying 109 with|some (.array _ _)|some (.struct _)=>true|_=>false)=true:=by rw[Tryz.underlying109]
set_option maxRecDepth 100000 in
theorem side_law:WideMaps.KeyLaw Tryz.prog 109:=deep_law_laid side_laidOut (m:=2) (by omega) side_row (by kernel_rfl) side_wide
theorem side_kt:Tryz.prog.keyType 109=true:=by kernel_rfl
theorem side_cells:Tryz.prog.cellsOf 109=2:=by kernel_rfl
theorem side_key (a b:Int) (wa:Ok64 a) (wb:Ok64 b):∃l,keyOf Tryz.prog 109 (.agg #[.int .i64 a,.int .i64 b])=some l:=by
 obtain⟨m,hm⟩:∃m,Tryz.prog.types.size=m+1:=⟨Tryz.prog.types.size-1,(Nat.succ_pred_eq_of_pos (Nat.lt_of_le_of_lt (Nat.zero_le _) side_row)).symm⟩
 have h1:Tryz.prog.cellsOf 3=1:=by kernel_rfl
 unfold Ok64 at wa wb
 unfold keyOf
 simp only[Tryz.underlying109]
 rw[if_pos (by simp[side_kt,Value.formed,Tryz.underlying109,side_cells]),hm]
 unfold Program.keyLits
 simp only[Tryz.underlying109,Value.cells]
 rw[if_pos (by rw[side_cells];exact⟨rfl,by kernel_rfl⟩)]
 simp[Program.keyLits,Tryz.underlying3,wa,wb,h1]
def jR:Value→Option (DataW Unit×List MemPlace)
 | .agg cs=>match cs.toList with
  | [.int .i64 a,.int .i64 b,.int .i64 c]=>some (.agg [.lit (.int .i64 a),.lit (.int .i64 b),.lit (.int .i64 c)],[])
  | _=>none
 | _=>none
def jK:MapK Tryz.prog 91 109 55 PairOk pairV jV ⟨0,0,0⟩ where
 ty:=Tryz.underlying91
 keyed:=Keyed.of_law side_law
 R:=jR
 dd:=fun j=>.agg [.lit (.int .i64 (j.dest:Int)),.lit (.int .i64 (j.keep:Int)),.lit (.int .i64 (j.h:Int))]
 key:=fun x hx=>side_key _ _ (ok64 (by omega) (by have:=hx.1;omega)) (ok64 (by omega) (by have:=hx.2;omega))
 inj:=fun x y _ _ h=>by
  unfold pairV at h
  injection h with h
  obtain⟨x1,x2⟩:=x
  obtain⟨y1,y2⟩:=y
  simp at h
  obtain⟨h1,h2⟩:=h
  have e1:x1=y1:=by omega
  have e2:x2=y2:=by omega
  rw[e1,e2]
 read:=fun d=>rfl
 back:=fun v d ps h=>by
  unfold jR at h
  split at h
  ·rename_i cs
   split at h
   ·rename_i a b c hcs
    have hv:cs=#[.int .i64 a,.int .i64 b,.int .i64 c]:=by
     apply Array.toList_inj.1
     rw[hcs]
    subst hv
    simp at h
    unfold jV
    rw[h.1.1,h.1.2.1,h.1.2.2]
   ·cases h
  ·cases h
 zer:=fun w=>by kernel_rfl
def natF (F:Nat→Option Nat) (x:Int):Option Int:=if 0≤x then (F x.toNat).map (fun n=>(n:Int))else none
theorem natF_none:natF (fun _=>none)=fun _=>none:=by
 funext x
 unfold natF
 split<;>rfl
theorem natF_upd (F:Nat→Option Nat) (i d:Nat):(fun y=>if y=(i:Int)then some (d:Int)else natF F y)=natF (updF F i d):=by
 funext y
 unfold natF updF
 by_cases h:y=(i:Int)
 ·subst h
  simp
 ·rw[if_neg h]
  by_cases h0:0≤y
  ·rw[if_pos h0,if_pos h0,if_neg (by omega)]
  ·rw[if_neg h0,if_neg h0]
def oD (p:Nat×Nat):List Value:=[.int .i64 (p.1:Int),.int .i64 (p.2:Int)]
structure MkB (W0:World) (m:MkS):Prop where
 l:Row W0 5 XL.cs m.l
 lab:∀x∈m.l.l,Row W0 1 uD x.l
 sp:SpAt W0.heap.size W0 m.sp.at_ m.sp.l
 hs:Row W0 1 nD m.hs
 mb:m.mb=W0.heap.size+4
 sg:m.sg=W0.heap.size+3
structure Br (W0 w:World) (m:MkS) (vo:Value) (nj nc nk:Nat) (J:Nat×Nat→Option Jmp) (C K:Nat→Option Nat) (ord:List (Nat×Nat)):Prop where
 low:Below W0.heap.size W0 w
 mkr:w.heap[W0.heap.size+4]?=some (.cells m.cs.toArray 97 (0,0))
 blk:w.heap[W0.heap.size+3]?=some (.cells #[.map (some W0.heap.size),.map (some (W0.heap.size+1)),.map (some (W0.heap.size+1+1)),vo] 95 (0,0))
 j:FMap jK w W0.heap.size nj J
 c:FMap iK w (W0.heap.size+1) nc (natF C)
 k:FMap iK w (W0.heap.size+1+1) nk (natF K)
 ord:w.ownsRow (W0.heap.size+5) 109 2 vo ord.length (ord.flatMap oD)
section
variable {W0 w w':World} {m:MkS} {vo:Value} {nj nc nk:Nat} {J:Nat×Nat→Option Jmp} {C K:Nat→Option Nat} {ord:List (Nat×Nat)}
theorem Br.below (h:Br W0 w m vo nj nc nk J C K ord) (hb:Below w.heap.size w w'):Br W0 w' m vo nj nc nk J C K ord :=
 ⟨h.low.trans (hb.mono h.low.size),(hb.block _ (blk_lt h.mkr)).trans h.mkr,(hb.block _ (blk_lt h.blk)).trans h.blk,h.j.below hb,h.c.below hb,h.k.below hb,own_only3 (S:=[]) h.ord (Only.of_below hb) (by simp)⟩
theorem Br.sz (h:Br W0 w m vo nj nc nk J C K ord):W0.heap.size+5≤w.heap.size:=by have:=blk_lt h.mkr;omega
theorem Br.mkin (h:Br W0 w m vo nj nc nk J C K ord) (hB:MkB W0 m):MkIn w m :=
 ⟨by rw[hB.mb];exact h.mkr,hB.l.below h.low,fun x hx=>(hB.lab x hx).below h.low,fun k x hx=>by
  obtain⟨b,off,e,hlt,r⟩:=hB.sp.below h.low k x hx
  exact⟨b,off,e,Nat.lt_of_lt_of_le hlt h.low.size,r⟩,hB.hs.below h.low⟩
theorem Br.far (h:Br W0 w m vo nj nc nk J C K ord) {x:Nat} (hx:x<W0.heap.size+5):∀q,vo.ownBlock=some q→q≠x:=fun q hq e=>by have:=own_ge h.ord q hq;omega
theorem Br.putJ (h:Br W0 w m vo nj nc nk J C K ord) {J2:Nat×Nat→Option Jmp} (hj:FMap jK w' W0.heap.size (nj+1) J2) (ho:Only [W0.heap.size] w w'):Br W0 w' m vo (nj+1) nc nk J2 C K ord :=
 ⟨h.low.trans (ho.below h.low.size (by simp)),(ho.block _ (blk_lt h.mkr) (by simp)).trans h.mkr,(ho.block _ (blk_lt h.blk) (by simp)).trans h.blk,hj,h.c.only ho (by simp),h.k.only ho (by simp;omega),own_only3 h.ord ho (fun q hq hm=>h.far (x:=W0.heap.size) (by omega) q hq (by simpa using hm))⟩
theorem Br.putC (h:Br W0 w m vo nj nc nk J C K ord) {C2:Nat→Option Nat} (hc:FMap iK w' (W0.heap.size+1) (nc+1) (natF C2)) (ho:Only [W0.heap.size+1] w w'):Br W0 w' m vo nj (nc+1) nk J C2 K ord :=
 ⟨h.low.trans (ho.below h.low.size (by simp)),(ho.block _ (blk_lt h.mkr) (by simp)).trans h.mkr,(ho.block _ (blk_lt h.blk) (by simp)).trans h.blk,h.j.only ho (by simp),hc,h.k.only ho (by simp),own_only3 h.ord ho (fun q hq hm=>h.far (x:=W0.heap.size+1) (by omega) q hq (by simpa using hm))⟩
theorem Br.putK (h:Br W0 w m vo nj nc nk J C K ord) {K2:Nat→Option Nat} (hc:FMap iK w' (W0.heap.size+1+1) (nk+1) (natF K2)) (ho:Only [W0.heap.size+1+1] w w'):Br W0 w' m vo nj nc (nk+1) J C K2 ord :=
 ⟨h.low.trans (ho.below h.low.size (by simp;omega)),(ho.block _ (blk_lt h.mkr) (by simp)).trans h.mkr,(ho.block _ (blk_lt h.blk) (by simp)).trans h.blk,h.j.only ho (by simp;omega),h.c.only ho (by simp),hc,own_only3 h.ord ho (fun q hq hm=>h.far (x:=W0.heap.size+1+1) (by omega) q hq (by simpa using hm))⟩
theorem Br.push (h:Br W0 w m vo nj nc nk J C K ord) {v':Value} {p:Nat×Nat} (ho:w'.ownsRow (W0.heap.size+5) 109 2 v' (ord.length+1) (ord.flatMap oD++oD p)) (hg:Grows w w' vo v') :
  Br W0 (w'.setCell ⟨W0.heap.size+3,3,none⟩ v') m v' nj nc nk J C K (ord++[p]):=by
 have h1:∀x,x<W0.heap.size+5→x∉vo.ownBlock.toList:=fun x hx hm=>h.far hx x (by simpa using hm) rfl
 have h2:=(hg.only.block _ (blk_lt h.blk) (h1 _ (by omega))).trans h.blk
 have hs:Only [W0.heap.size+3] w' (w'.setCell ⟨W0.heap.size+3,3,none⟩ v'):=Only.setCell w' (p:=⟨W0.heap.size+3,3,none⟩) (by simp) _
 refine⟨?_,(hs.block _ (Nat.lt_of_lt_of_le (blk_lt h.mkr) hg.by_.size) (by simp)).trans ((hg.only.block _ (blk_lt h.mkr) (h1 _ (by omega))).trans h.mkr),?_,(h.j.only hg.only (h1 _ (by omega))).only hs (by simp),(h.c.only hg.only (h1 _ (by omega))).only hs (by simp),(h.k.only hg.only (h1 _ (by omega))).only hs (by simp),?_⟩
 ·exact(hg.below' h.low h.low.size (fun q hq=>by have:=own_ge h.ord q hq;omega)).trans (hs.below (Nat.le_trans h.low.size hg.by_.size) (by simp))
 ·rw[setCell_blk h2 3]
  simp
 ·have h3:=own_only3 ho hs (fun q hq hm=>by have:=own_ge ho q hq;simp at hm;omega)
  rw[List.length_append,List.flatMap_append]
  simpa using h3
end
end Go.Proofs.YtomppgohoplemaaGreat
namespace Go.Proofs.YtomppgohoplemaaGreat
open Go.RowKit Go.Maps
theorem key_elem:IsElem Tryz.prog 93 109 2 16:=IsElem.mk' Tryz.underlying93 (z:=.agg #[.int .i64 0,.int .i64 0]) (by kernel_rfl) rfl (by omega)
theorem run_convU {n:Nat} (h:n≤4294967295) (W:World):(convert 66 3 (.int .u64 (n:Int))).run Tryz.prog W=.ok (.int .i64 (n:Int)) W:=by
 have h2:(n:Int)≤4294967295:=by omega
 go_simp
 rw[IntWalk.i64_in _ (by omega)]
theorem arP_sub (sp:List Spn) (i:Nat):∀x∈arP sp i,x∈sp:=fun x hx=>by
 unfold arP at hx
 exact List.mem_reverse.1 (List.mem_filter.1 hx).1
theorem arP_len (sp:List Spn) (i:Nat):(arP sp i).length≤sp.length:=by
 unfold arP
 exact Nat.le_trans (List.length_filter_le _ _) (by simp)
theorem Row.onlyS {α:Type} {w w':World} {size:Nat} {dec:α→List Value} {s:Sl α} {S:List Nat} (h:Row w size dec s) (ho:Only S w w') (hS:∀ad,s.at_=some ad→0<s.l.length→ad.block∉S):Row w' size dec s:=by
 refine⟨⟨h.r.1,fun h0=>?_⟩,h.c,h.m⟩
 obtain⟨ad,ha,hlt,hc⟩:=h.r.2 h0
 refine⟨ad,ha,Nat.lt_of_lt_of_le hlt ho.size,fun j u hu=>?_⟩
 have hc2:w'.cell? (ad.add j)=w.cell? (ad.add j):=World.cell?_of_block (by rw[block_of_add];exact ho.block _ hlt (hS ad ha h0))
 rw[hc2]
 exact hc j u hu
def BrP (W0:World) (m:MkS) (i nj nc nk:Nat) (K:Nat→Option Nat) (w:World) (e:Ending) (w':World):Prop :=
 ∃(vo:Value) (nj2 nc2:Nat),e=.returned (.tuple #[])∧nj2≤nj+200∧nc2≤nc+1∧Hid (Br W0 w' m vo nj2 nc2 nk (m.e.jumps (i+1) 0) (m.e.counts (i+1)) K (m.e.order (i+1)))
set_option maxRecDepth 100000 in
set_option maxHeartbeats 6400000 in
theorem branch_any (W0:World) (m:MkS) (hB:Hid (MkB W0 m)) (ok:Hid (MkOk m)) (i nj nc nk:Nat) (K:Nat→Option Nat) (vo:Value) (y:XL) (w:World) (h:Hid (Br W0 w m vo nj nc nk (m.e.jumps i 0) (m.e.counts i) K (m.e.order i))) (hy:m.l.l[i]?=some y)
  (hlab:(m.e.lab i).length≤200) (hnum:∀n∈m.e.lab i,n≤4294967295) (hnj:nj≤1000000) (hnc:nc≤1000000) (hol:(m.e.order i).length≤1000000) :
  Calls Tryz.prog 22 #[.pointer (some ⟨m.mb,0,none⟩),.int .i64 (i:Int)] w (BrP W0 m i nj nc nk K w):=by
 have hmk:=h.out.mkin hB.out
 have hn:=ok.out.n
 have hi:i<m.l.l.length:=(List.getElem?_eq_some_iff.1 hy).1
 have hi3:(i:Int)<(m.l.l.length:Int):=by omega
 have hAR:=hide (around_any m.mb m.sp.cap i m.sp.at_ m.sp.l w (cell_blk hmk.blk 1) ok.out.sl (hide hmk.sp) (by omega))
 have hmem:=List.mem_of_getElem? hy
 have hlabs:m.e.lab i=labelsX y.x:=by unfold SidE.lab;rw[xAt_some hy]
 obtain⟨ls,hls⟩:∃ls,m.e.lab i=ls:=⟨_,rfl⟩
 rw[hls]at hlabs hlab hnum
 have HLAB:=hide (fun (V:World) (hV:Below w.heap.size w V)=>labels_any y V (hide ((hmk.lab y hmem).below hV)) (ok.out.lb y hmem))
 rw[←hlabs]at HLAB
 have HLS:=hide hls;have HMK:=hide hmk
 obtain⟨ad,ha,_,k0,kj⟩:=hmk.l.at_ (fun _=>rfl) hy
 have HAD:=hide ha
 have HCX:Hid (∀V,Below w.heap.size w V→V.cell? ⟨m.mb,0,none⟩=some (.slice (some ad) m.l.l.length m.l.cap)∧V.cell? (ad.add (i*5))=some (.int .i64 y.code)∧V.cell? ⟨(ad.add (i*5)).block,(ad.add (i*5)).off+1,none⟩=some (.int .u64 (y.a:Int))∧V.cell? ⟨(ad.add (i*5)).block,(ad.add (i*5)).off+2,none⟩=some (.int .u64 (y.b:Int))∧V.cell? ⟨(ad.add (i*5)).block,(ad.add (i*5)).off+3,none⟩=some (.int .i64 y.al)∧V.cell? ⟨(ad.add (i*5)).block,(ad.add (i*5)).off+4,none⟩=some (.slice y.l.at_ y.l.l.length y.l.cap)):=fun V hV=>by
  have hV2:=hmk.below hV
  obtain⟨ad2,ha2,_,g0,gj⟩:=hV2.l.at_ (fun _=>rfl) hy
  rw[ha]at ha2
  injection ha2 with ha2
  subst ha2
  have z0:V.cell? ⟨m.mb,0,none⟩=some m.l.val:=cell_blk hV2.blk 0
  unfold Sl.val at z0
  rw[ha]at z0
  exact⟨z0,g0 _ rfl (by omega),gj 1 (by omega) (by omega) _ rfl,gj 2 (by omega) (by omega) _ rfl,gj 3 (by omega) (by omega) _ rfl,gj 4 (by omega) (by omega) _ rfl⟩
 clear k0 kj ha hmk hls hlabs hmem
 go_enter Tryz.func22,Tryz.ntmps22
 go_wp2_with fail
 refine hAR.out.mono ?_;rintro e w1 ⟨AB,an,ac,rfl,han,hao,hb1⟩
 obtain⟨c0,y0,y1,y2,y3,y4⟩:=HCX.out w1 hb1.out
 go_wp2_with fail
 refine(HLAB.out w1 hb1.out).mono ?_;rintro e w2 ⟨LB,lc,rfl,hlr,hlge,hb2⟩
 clear c0 y0 y1 y2 y3 y4 hAR HLAB
 have hB2:=hb1.out.trans (hb2.out.mono hb1.out.size)
 have hBr2:=h.out.below hB2
 have hAO:=own_only3 (S:=[]) hao.out (Only.of_below hb2.out) (by simp)
 subst han
 obtain⟨ar,har⟩:∃ar:Sl Spn,ar=⟨AB,ac,arP m.sp.l i⟩:=⟨_,rfl⟩
 have hAR2:Row w2 3 spC ar:=by rw[har];exact row_of_own hAO rfl
 have hARg:∀ad,ar.at_=some ad→w.heap.size≤ad.block:=fun ad e=>by rw[har]at e;subst e;exact own_ge hAO ad.block rfl
 have hLg:∀ad,LB=some ad→w.heap.size≤ad.block:=fun ad e=>Nat.le_trans hb1.out.size (hlge.out ad e)
 have hbs:=h.out.sz
 have HBr2:=hide hBr2;have HAR2:=hide hAR2;have HARG:=hide hARg;have HLG:=hide hLg;have HLR:=hlr
 have hf1:(⟨AB,(arP m.sp.l i).length,ac⟩:Option Addr×Nat×Nat)=(ar.at_,ar.l.length,ar.cap):=by rw[har]
 injection hf1 with e1 hf2
 injection hf2 with e2 e3
 rw[e1,e2,e3]
 have HARL:Hid (ar.l=arP m.sp.l i):=by rw[har];rfl
 have har1:ar.l.length≤1000000:=by rw[HARL.out];exact Nat.le_trans (arP_len _ _) ok.out.sl
 clear hB2 hBr2 hAO hAR2 hARg hLg hao hlr hlge hb1 hb2 e1 e2 e3 har
 go_upto_if 21 with fail
 go_cut [] (fun wx=>∃nc2,nc2≤nc+1∧Hid (Br W0 wx m vo nj nc2 nk (m.e.jumps i 0) (m.e.counts (i+1)) K (m.e.order i))∧Hid (Only [W0.heap.size+1] w2 wx))
 case first =>
  by_cases h0:0<ls.length
  ·have h0i:(0:Int)<(ls.length:Int):=by omega
   have c4:w2.cell? ⟨m.mb,4,none⟩=some (.pointer (some ⟨m.sg,0,none⟩)):=by rw[hB.out.mb];exact cell_blk HBr2.out.mkr 4
   have d1:w2.cell? ⟨m.sg,1,none⟩=some (.map (some (W0.heap.size+1))):=by rw[hB.out.sg];exact cell_blk HBr2.out.blk 1
   obtain⟨w3,hmu,hf3,hg3⟩:=HBr2.out.c.put (x:=(i:Int)) (by unfold maxLen;omega) (ok64 (by omega) (by omega)) (ls.length:Int)
   have hst:(fun y=>if y=(i:Int)then some (ls.length:Int)else natF (m.e.counts i) y)=natF (m.e.counts (i+1)):=by
    rw[natF_upd,SidE.counts_step,HLS.out,if_pos h0]
   rw[hst]at hf3
   have HBr3:Hid (Br W0 w3 m vo nj (nc+1) nk (m.e.jumps i 0) (m.e.counts (i+1)) K (m.e.order i)):=HBr2.out.putC hf3 (only_grown hg3)
   have HO3:=hide (only_grown hg3)
   have hmu2:(Instr.mapUpdate 92 (.map (some (W0.heap.size+1))) (.int .i64 (i:Int)) (.int .i64 (ls.length:Int))).run Tryz.prog w2=.ok () w3:=hmu
   clear hst hf3 hg3 hmu h0
   go_wp2_with fail
   go_meet
   exact⟨nc+1,Nat.le_refl _,HBr3,HO3⟩
  ·have h0i:¬((0:Int)<(ls.length:Int)):=by omega
   have hst:m.e.counts (i+1)=m.e.counts i:=by rw[SidE.counts_step,HLS.out,if_neg h0]
   have HBr3:Hid (Br W0 w2 m vo nj nc nk (m.e.jumps i 0) (m.e.counts (i+1)) K (m.e.order i)):=by rw[hst];exact HBr2
   clear hst h0
   go_wp2_with fail
   go_meet
   exact⟨nc,by omega,HBr3,Only.refl _ _⟩
 obtain⟨nc2,hnc2,hbr3,ho3⟩:=hcut
 have HAR3:Hid (Row wc 3 spC ar):=HAR2.out.onlyS ho3.out (fun ad e _ hm=>by have:=HARG.out ad e;simp at hm;omega)
 have HLR3:Hid (Row wc 1 uD ⟨LB,lc,ls⟩):=HLR.out.onlyS ho3.out (fun ad e _ hm=>by have:=HLG.out ad e;simp at hm;omega)
 have hwx:w2.heap.size≤wc.heap.size:=ho3.out.size
 have HOW:Hid (∀q,vo.ownBlock=some q→q<w.heap.size):=fun q hq=>(h.out.ord.lt q hq).2
 clear HAR2 HLR HBr2
 go_wp2_with fail
 go_loopw [6,7,34] (fun _ _ c V=>∃(k nj2:Nat) (vo2:Value),c=.int .i64 (k:Int)∧k≤ls.length∧nj2≤nj+k∧Hid (Br W0 V m vo2 nj2 nc2 nk (m.e.jumps i k) (m.e.counts (i+1)) K (m.e.order i++rowJ i k))∧Hid (Only (W0.heap.size::(W0.heap.size+3)::vo.ownBlock.toList) wc V)∧Hid (vo2.ownBlock=vo.ownBlock∨∃q,vo2.ownBlock=some q∧wc.heap.size≤q)) (fun _ _ c _=>ls.length-(intOf c).toNat)
 case atStart=>exact⟨0,nj,vo,rfl,Nat.zero_le _,Nat.le_refl _,by rw[show rowJ i 0=[]from rfl,List.append_nil];exact hbr3,Only.refl _ _,.inl rfl⟩
 case round =>
  obtain⟨k,nj2,vo2,rfl,hk,hnj2,hbr,hon,hli⟩:=hrel
  have hfar:∀x,W0.heap.size+5≤x→w.heap.size≤x→x∉(W0.heap.size::(W0.heap.size+3)::vo.ownBlock.toList):=fun x h1 h2 hm=>by
   simp at hm
   rcases hm with hm|hm|hm
   ·omega
   ·omega
   ·have:=HOW.out x hm;omega
  have hARr:Row wr 3 spC ar:=HAR3.out.onlyS hon.out (fun ad e _ hm=>hfar ad.block (by have:=HARG.out ad e;omega) (HARG.out ad e) hm)
  have hLRr:Row wr 1 uD ⟨LB,lc,ls⟩:=HLR3.out.onlyS hon.out (fun ad e _ hm=>hfar ad.block (by have:=HLG.out ad e;omega) (HLG.out ad e) hm)
  by_cases hlt:k<ls.length
  ·have hkl:(k:Int)<(ls.length:Int):=by omega
   obtain⟨nn,hnn⟩:∃nn,ls[k]?=some nn:=⟨_,List.getElem?_eq_getElem hlt⟩
   obtain⟨lad,hlad,_,u0,_⟩:=hLRr.at_ (fun _=>rfl) (i:=k) (x:=nn) hnn
   have lv0:wr.cell? (lad.add k)=some (.int .u64 (nn:Int)):=by have:=u0 _ rfl (by omega);rw[Nat.mul_one]at this;exact this
   have hnn2:=hnum nn (List.mem_of_getElem? hnn)
   obtain⟨jj,hjj⟩:∃jj,jumpP m.e.l m.hs.l m.res ar.l nn=jj:=⟨_,rfl⟩
   have HJ:=hide (fun (V:World) (hV:Below wr.heap.size wr V)=>jump_any m ok ar nn V (hide ((hbr.out.below hV).mkin hB.out)) (hide (hARr.below hV)) (fun x hx=>by rw[HARL.out]at hx;exact arP_sub _ _ x hx) har1 hnn2)
   rw[hjj]at HJ
   have HJS:Hid (m.e.jumps i (k+1)=updF (m.e.jumps i k) (i,k) jj):=by
    show _=_
    rw[SidE.jumps_step m.e (i:=i) (k:=k) (n:=nn) (by rw[HLS.out];exact hnn),←hjj,HARL.out]
    rfl
   have HCL:Hid (∀V,Below wr.heap.size wr V→V.cell? ⟨m.mb,4,none⟩=some (.pointer (some ⟨m.sg,0,none⟩))∧V.cell? ⟨m.sg,0,none⟩=some (.map (some W0.heap.size))∧V.cell? ⟨m.sg,1,none⟩=some (.map (some (W0.heap.size+1)))∧V.cell? ⟨m.sg,3,none⟩=some vo2):=fun V hV=>by
    have hb:=hbr.out.below hV
    rw[hB.out.mb,hB.out.sg]
    exact⟨(cell_blk hb.mkr 4).trans (by unfold MkS.cs;rw[hB.out.sg];rfl),cell_blk hb.blk 0,cell_blk hb.blk 1,cell_blk hb.blk 3⟩
   have hlad2:LB=some lad:=hlad
   clear hARr hLRr hlad u0 hjj hnn
   rw[hlad2]
   go_upto_region 7 with fail
   refine wp_region_last (l:=[_,_,_,_,_,_,_,_,_,_,_,_,_,_,_]) (o:=_) grew_ext (factsOf [fun yy _=>yy=.pointer (some ⟨m.mb,0,none⟩),
    fun yy _=>yy=.pointer (some ⟨m.mb,0,none⟩),
    fun yy _=>yy=.pointer (some ⟨m.mb,4,none⟩),
    fun yy _=>yy=.pointer (some ⟨m.sg,0,none⟩),
    fun yy _=>yy=.pointer (some ⟨m.sg,0,none⟩),
    fun yy _=>yy=.pointer (some ⟨m.sg,0,none⟩),
    fun yy _=>yy=.map (some W0.heap.size),
    fun yy _=>yy=.int .i64 (i:Int),
    fun yy _=>yy=.int .i64 (k:Int),
    fun yy _=>yy=.agg #[.int .i64 (i:Int),.int .i64 (k:Int)],
    fun yy _=>yy=.pointer (some ⟨m.mb,0,none⟩),
    fun yy _=>yy=.slice ar.at_ ar.l.length ar.cap,
    fun yy _=>yy=.int .u64 (nn:Int),
    fun yy _=>yy=.int .i64 (nn:Int),
    fun yy _=>yy=jV jj]) (by kernel_rfl) (by kernel_rfl) (by kernel_rfl) ?_ ?_
   ·refine⟨?_,?_,?_,?_,?_,?_,?_,?_,?_,?_,?_,?_,?_,?_,?_,trivial⟩
    ·refine⟨fun ρ W3 hk=>?_⟩
     have o0:ρ (.tmp 0)=.pointer (some ⟨m.mb,0,none⟩):=hk.old 0 (by decide)
     exact OpOut.move (.tmp 0) rfl ⟨Below.refl _ _,o0⟩
    ·refine⟨fun ρ W3 hk=>?_⟩
     have h0:=(hk.fact 0 39 (by decide) rfl).pure
     exact OpOut.nilCheck (x:=.tmp 39) rfl h0 ⟨Below.refl _ _,rfl⟩
    ·refine⟨fun ρ W3 hk=>?_⟩
     have h1:=(hk.fact 1 40 (by decide) rfl).pure
     exact OpOut.fieldAddr (x:=.tmp 40) rfl h1 (by go_simp) ⟨Below.refl _ _,rfl⟩
    ·refine⟨fun ρ W3 hk=>?_⟩
     have h2:=(hk.fact 2 41 (by decide) rfl).pure
     obtain⟨q4,q0,q1,q3⟩:=HCL.out W3 hk.below
     exact OpOut.load (x:=.tmp 41) rfl h2 (by go_simp) ⟨Below.refl _ _,rfl⟩
    ·refine⟨fun ρ W3 hk=>?_⟩
     have h3:=(hk.fact 3 42 (by decide) rfl).pure
     exact OpOut.nilCheck (x:=.tmp 42) rfl h3 ⟨Below.refl _ _,rfl⟩
    ·refine⟨fun ρ W3 hk=>?_⟩
     have h4:=(hk.fact 4 43 (by decide) rfl).pure
     exact OpOut.fieldAddr (x:=.tmp 43) rfl h4 (by go_simp) ⟨Below.refl _ _,rfl⟩
    ·refine⟨fun ρ W3 hk=>?_⟩
     have h5:=(hk.fact 5 44 (by decide) rfl).pure
     obtain⟨q4,q0,q1,q3⟩:=HCL.out W3 hk.below
     exact OpOut.load (x:=.tmp 44) rfl h5 (by go_simp) ⟨Below.refl _ _,rfl⟩
    ·refine⟨fun ρ W3 hk=>?_⟩
     have o1:ρ (.tmp 1)=.int .i64 (i:Int):=hk.old 1 (by decide)
     exact OpOut.move (.tmp 1) rfl ⟨Below.refl _ _,o1⟩
    ·refine⟨fun ρ W3 hk=>?_⟩
     have o6:ρ (.tmp 6)=.int .i64 (k:Int):=hk.old 6 (by decide)
     exact OpOut.move (.tmp 6) rfl ⟨Below.refl _ _,o6⟩
    ·refine⟨fun ρ W3 hk=>?_⟩
     have h7:=(hk.fact 7 46 (by decide) rfl).pure
     have h8:=(hk.fact 8 47 (by decide) rfl).pure
     exact OpOut.build (us:=#[(0,.int .i64 (i:Int)),(1,.int .i64 (k:Int))]) rfl (by simp[h7,h8]) (by go_simp) ⟨Below.refl _ _,rfl⟩
    ·refine⟨fun ρ W3 hk=>?_⟩
     have o0:ρ (.tmp 0)=.pointer (some ⟨m.mb,0,none⟩):=hk.old 0 (by decide)
     exact OpOut.move (.tmp 0) rfl ⟨Below.refl _ _,o0⟩
    ·refine⟨fun ρ W3 hk=>?_⟩
     have o4:ρ (.tmp 4)=.slice ar.at_ ar.l.length ar.cap:=hk.old 4 (by decide)
     exact OpOut.move (.tmp 4) rfl ⟨Below.refl _ _,o4⟩
    ·refine⟨fun ρ W3 hk=>?_⟩
     have o7:ρ (.tmp 7)=.int .u64 (nn:Int):=hk.old 7 (by decide)
     exact OpOut.move (.tmp 7) rfl ⟨Below.refl _ _,o7⟩
    ·refine⟨fun ρ W3 hk=>?_⟩
     have h12:=(hk.fact 12 51 (by decide) rfl).pure
     exact OpOut.conv (x:=.tmp 51) rfl (by rw[h12];exact run_convU (by omega) W3) ⟨Below.refl _ _,rfl⟩
    ·refine⟨fun ρ W3 hk=>?_⟩
     have h10:=(hk.fact 10 49 (by decide) rfl).pure
     have h11:=(hk.fact 11 50 (by decide) rfl).pure
     have h13:=(hk.fact 13 52 (by decide) rfl).pure
     refine OpOut.fn (args:=#[.pointer (some ⟨m.mb,0,none⟩),.slice ar.at_ ar.l.length ar.cap,.int .i64 (nn:Int)]) rfl (hk.func _) (by simp[h10,h11,h13]) Tryz.func37 (by kernel_rfl) rfl ?_
     refine(HJ.out W3 hk.below).mono ?_;rintro e w5 ⟨rfl,hb5⟩
     exact⟨_,rfl,hb5.out,rfl⟩
   intro vs W8 hb8 hf
   have h6:=(hf 6 (by decide)).pure
   have h9:=(hf 9 (by decide)).pure
   have h14:=(hf 14 (by decide)).pure
   clear hf
   simp only[fillL]
   rw[h6]
   rw[h9]
   rw[h14]
   generalize vs 0=v0,vs 1=v1,vs 2=v2,vs 3=v3,vs 4=v4,vs 5=v5,vs 7=v7,vs 8=v8,vs 10=v10,vs 11=v11,vs 12=v12,vs 13=v13
   have hBr8:=hbr.out.below hb8
   obtain⟨w9,hmu,hf9,hg9⟩:=hBr8.j.put (x:=(i,k)) (by unfold maxLen;omega) ⟨by omega,by omega⟩ jj
   have hBr9:=hBr8.putJ (J2:=m.e.jumps i (k+1)) (by rw[HJS.out];exact hf9) (only_grown hg9)
   have hmu2:(Instr.mapUpdate 91 (.map (some W0.heap.size)) (.agg #[.int .i64 (i:Int),.int .i64 (k:Int)]) (jV jj)).run Tryz.prog W8=.ok () w9:=hmu
   have hO9:Only (W0.heap.size::(W0.heap.size+3)::vo.ownBlock.toList) wc w9:=(hon.out.trans (Only.of_below hb8)).trans ((only_grown hg9).more (by simp))
   have hsz8:wc.heap.size≤W8.heap.size:=Nat.le_trans hon.out.size hb8.size
   have hsz9:W8.heap.size≤w9.heap.size:=hg9.size
   have hro:(m.e.order i++rowJ i k).length=(m.e.order i).length+k:=by rw[List.length_append,rowJ_len]
   have hroom:Room ((m.e.order i).length+k) 1 16:=room_of (by omega) (by omega)
   have hown:w9.ownsRow (W0.heap.size+5) 109 2 vo2 ((m.e.order i).length+k) ((m.e.order i++rowJ i k).flatMap oD):=by have:=hBr9.ord;rw[hro]at this;exact this
   obtain⟨Ao,co,hvo,_,_⟩:=own_form hown
   subst hvo
   have HBR9:=hide hBr9;have HO9:=hide hO9;have HOWN:=hide hown;have HLI:=hli
   have HBK:Hid (∀v3 w3,Grows w9 w3 (.slice Ao ((m.e.order i).length+k) co) v3→w3.heap[m.sg]?=some (.cells #[.map (some W0.heap.size),.map (some (W0.heap.size+1)),.map (some (W0.heap.size+1+1)),.slice Ao ((m.e.order i).length+k) co] 95 (0,0))):=fun v3 w3 hg=>by
    rw[hB.out.sg]
    exact(hg.only.block _ (blk_lt HBR9.out.blk) (fun hm=>HBR9.out.far (x:=W0.heap.size+3) (by omega) _ (by simpa using hm) rfl)).trans HBR9.out.blk
   have HPU:Hid (∀v3 w3,w3.ownsRow (W0.heap.size+5) 109 2 v3 ((m.e.order i).length+k+1) ((m.e.order i++rowJ i k).flatMap oD++oD (i,k))→Grows w9 w3 (.slice Ao ((m.e.order i).length+k) co) v3→Br W0 (w3.setCell ⟨m.sg,3,none⟩ v3) m v3 (nj2+1) nc2 nk (m.e.jumps i (k+1)) (m.e.counts (i+1)) K (m.e.order i++rowJ i (k+1))):=fun v3 w3 h1 h2=>by
    rw[hB.out.sg,rowJ_succ,←List.append_assoc]
    rw[←hro]at h1
    exact HBR9.out.push h1 h2
   have HPO:Hid (∀v3 w3,Grows w9 w3 (.slice Ao ((m.e.order i).length+k) co) v3→Only (W0.heap.size::(W0.heap.size+3)::vo.ownBlock.toList) wc (w3.setCell ⟨m.sg,3,none⟩ v3)∧(v3.ownBlock=vo.ownBlock∨∃q,v3.ownBlock=some q∧wc.heap.size≤q)):=fun v3 w3 h2=>by
    refine⟨?_,?_⟩
    ·have h5:Only (W0.heap.size::(W0.heap.size+3)::vo.ownBlock.toList) wc w3:=by
      refine⟨h2.by_.os.trans HO9.out.os,h2.by_.tape.trans HO9.out.tape,h2.by_.output.trans HO9.out.output,Nat.le_trans HO9.out.size h2.by_.size,fun x hx hn=>?_⟩
      refine(h2.only.block x (Nat.lt_of_lt_of_le hx HO9.out.size) (fun hm=>?_)).trans (HO9.out.block x hx hn)
      rcases HLI.out with e|⟨q,e,hq⟩
      ·rw[e]at hm;exact hn (List.mem_cons_of_mem _ (List.mem_cons_of_mem _ hm))
      ·rw[e]at hm;simp at hm;omega
     exact h5.trans (Only.setCell w3 (p:=⟨m.sg,3,none⟩) (by rw[hB.out.sg];simp) _)
    ·rcases h2.lies with e|⟨q,e,hq⟩
     ·rw[e];exact HLI.out
     ·exact .inr ⟨q,e,Nat.le_trans HO9.out.size hq⟩
   have HBM:Hid (∀v3 w3,Grows w9 w3 (.slice Ao ((m.e.order i).length+k) co) v3→w3.cell? ⟨m.mb,4,none⟩=some (.pointer (some ⟨m.sg,0,none⟩))):=fun v3 w3 hg=>by
    rw[hB.out.mb]
    exact(cell_blk ((hg.only.block _ (blk_lt HBR9.out.mkr) (fun hm=>HBR9.out.far (x:=W0.heap.size+4) (by omega) _ (by simpa using hm) rfl)).trans HBR9.out.mkr) 4).trans (by unfold MkS.cs;rfl)
   have p4:w9.cell? ⟨m.mb,4,none⟩=some (.pointer (some ⟨m.sg,0,none⟩)):=by rw[hB.out.mb];exact cell_blk HBR9.out.mkr 4
   have hx9:w9.heap[m.sg]?=some (.cells #[.map (some W0.heap.size),.map (some (W0.heap.size+1)),.map (some (W0.heap.size+1+1)),.slice Ao ((m.e.order i).length+k) co] 95 (0,0)):=by rw[hB.out.sg];exact HBR9.out.blk
   have p3:w9.cell? ⟨m.sg,3,none⟩=some (.slice Ao ((m.e.order i).length+k) co):=cell_blk hx9 3
   have hnb:m.sg<w9.heap.size:=blk_lt hx9
   have hnb2:m.mb<w9.heap.size:=by have:=blk_lt HBR9.out.mkr;rw[←hB.out.mb]at this;exact this
   have hbase:W0.heap.size+5≤w9.heap.size:=HBR9.out.sz
   have HRO:=hide hro
   clear hro hBr8 hBr9 hO9 hown hmu hf9 hg9 hb8 hbr hon hli HJ HCL HJS hx9 lv0
   go_wp2_with fail
   go_region_law (refine step_push (by rfl) _ _ (by rfl) (W0.heap.size+5) key_elem _ _ _ (by rfl) w9 [.int .i64 (i:Int),.int .i64 (k:Int)] 109 (by rfl) HOWN.out (by rfl) rfl (by simp[Value.oneCell']) hroom hbase ?_;intro vo' w10 ho10 hg10;have p10:=HBM.out _ _ hg10;have y3:=cell_blk (HBK.out _ _ hg10) 3;have z3:=frozen_blk (HBK.out _ _ hg10) 3;obtain⟨A2,c2,rfl,_,_⟩:=own_form ho10;simp at y3)
   all_goals
    go_wp2_with fail
    go_roundw
    case rel =>
     exact⟨k+1,nj2+1,_,by go_num,by omega,by omega,(HPU.out _ _ ho10 hg10).below (by first|exact Below.refl _ _|exact(Below.refl _ _).drew),(HPO.out _ _ hg10).1.trans (Only.of_below (by first|exact Below.refl _ _|exact(Below.refl _ _).drew)),(HPO.out _ _ hg10).2⟩
    case measure=>simp[intOf]<;>omega
  ·have hkn:k=ls.length:=by omega
   subst hkn
   have hle:¬((ls.length:Int)<(ls.length:Int)):=by omega
   have hfin:Br W0 wr m vo2 nj2 nc2 nk (m.e.jumps (i+1) 0) (m.e.counts (i+1)) K (m.e.order (i+1)):=by
    have:=hbr.out
    rw[SidE.jumps_next,SidE.order_succ,HLS.out]
    exact this
   have HF:=hide hfin
   clear hfin hbr hon hli hARr hLRr hlt
   go_wp2_with fail
   go_end0
   exact⟨vo2,nj2,nc2,rfl,by omega,hnc2,HF⟩
end Go.Proofs.YtomppgohoplemaaGreat
