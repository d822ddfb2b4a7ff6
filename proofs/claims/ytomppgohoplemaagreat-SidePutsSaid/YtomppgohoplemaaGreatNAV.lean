import Derived.Test.YtomppgohoplemaaGreatNAJ
import Derived.Test.YtomppgohoplemaaGreatNAP
import Derived.Test.YtomppgohoplemaaGreatNAN
import Derived.Test.YtomppgohoplemaaGreatNAU
set_option linter.unusedVariables false
namespace Go.Proofs.YtomppgohoplemaaGreat
open Go.RowKit
def flt (n:Nat):Ending:=.panicked [{ v:=.iface 169 (.agg #[.int .i64 (n:Int)]),recovered:=false }]
theorem must_yes (n:Int) (w:World):Calls Tryz.prog 138 #[.bool true,.int .i64 n] w fun e w'=>e=.returned (.tuple #[])∧w=w':=by
 go_enter Tryz.func138,Tryz.ntmps138
 go_wp2_with fail
 go_end0
 exact⟨rfl,rfl⟩
theorem must_no (n:Nat) (m:Int) (hm:m=(n:Int)) (w:World):Calls Tryz.prog 138 #[.bool false,.int .i64 m] w fun e w'=>e=flt n∧w=w':=by
 subst hm
 go_enter Tryz.func138,Tryz.ntmps138
 go_wp2_with fail
 exact⟨rfl,rfl,rfl⟩
structure CB where
 lp:Bool
 is_:Bool
 res:Sl UInt8
 h:Nat
 dead:Bool
def CB.p (b:CB):PB:=⟨b.lp,b.is_,b.res.l,b.h,b.dead⟩
def CB.cs (b:CB):List Value:=[.bool b.lp,.bool b.is_,b.res.val,.int .i64 (b.h:Int),.bool b.dead]
structure KX where
 cb:Nat
 bs:Nat
 c0:Value
 c1:Value
 c2:Value
 c3:Value
 far:Option Nat
structure ResIn (w:World) (K:KX) (vs vb:Value) (r:Sl UInt8):Prop where
 row:Row w 1 bD r
 apart:0<r.l.length→∀ad,r.at_=some ad→ad.block<w.heap.size∧ad.block≠K.cb∧vs.ownBlock≠some ad.block∧vb.ownBlock≠some ad.block
 far:0<r.l.length→∀ad,r.at_=some ad→K.far≠some ad.block
structure CK (w:World) (K:KX) (vs vb:Value) (cs:List CB) (st:List UInt8):Prop where
 blk:w.heap[K.cb]?=some (.cells #[K.c0,K.c1,K.c2,K.c3,vs,vb] 149 (0,0))
 bc:K.bs≤K.cb
 os:w.ownsRow K.bs 133 1 vs st.length (st.map B)
 ob:w.ownsRow K.bs 146 5 vb cs.length (cs.flatMap CB.cs)
 as_:vs.ownBlock≠some K.cb
 ab:vb.ownBlock≠some K.cb
 av:∀g,vs.ownBlock=some g→vb.ownBlock≠some g
 rr:∀b∈cs,ResIn w K vs vb b.res
 fz:∀q,K.far=some q→q<w.heap.size
section
variable {w w':World} {K:KX} {vs vb vs' vb':Value} {cs:List CB} {st:List UInt8}
theorem NW.fresh (h:NW w w' K.cb vs vb vs' vb') {g:Nat} (hg:g<w.heap.size) (h1:g≠K.cb) (h2:vs.ownBlock≠some g) (h3:vb.ownBlock≠some g):w'.heap[g]?=w.heap[g]?∧vs'.ownBlock≠some g∧vb'.ownBlock≠some g:=by
 refine⟨h.only.block g hg fun hm=>?_,h.ls.apart h2 hg,h.lo.apart h3 hg⟩
 simp only[List.mem_cons,List.mem_append,Option.mem_toList]at hm
 rcases hm with hm|hm|hm
 ·exact h1 hm
 ·exact h2 hm
 ·exact h3 hm
theorem ResIn.step {r:Sl UInt8} (h:ResIn w K vs vb r) (hn:NW w w' K.cb vs vb vs' vb'):ResIn w' K vs' vb' r:=by
 have hs:=hn.only.size
 refine⟨⟨⟨h.row.r.1,fun h0=>?_⟩,h.row.c,h.row.m⟩,fun h0 ad ha=>?_,h.far⟩
 ·obtain⟨ad,ha,hb,hc⟩:=h.row.r.2 h0
  obtain⟨k0,k1,k2,k3⟩:=h.apart h0 ad ha
  obtain⟨j1,_,_⟩:=hn.fresh k0 k1 k2 k3
  refine⟨ad,ha,by omega,fun j u hu=>?_⟩
  have hc2:w'.cell? (ad.add j)=w.cell? (ad.add j):=World.cell?_of_block (by rw[block_of_add];exact j1)
  rw[hc2]
  exact hc j u hu
 ·obtain⟨k0,k1,k2,k3⟩:=h.apart h0 ad ha
  obtain⟨_,j2,j3⟩:=hn.fresh k0 k1 k2 k3
  exact⟨by omega,k1,j2,j3⟩
theorem CK.size (h:CK w K vs vb cs st):K.bs<w.heap.size∧K.cb<w.heap.size:=by
 have:=blk_lt h.blk;have:=h.bc;exact⟨by omega,by omega⟩
theorem NW.belowB (h:NW w w' K.cb vs vb vs' vb') (hc:CK w K vs vb cs st):Below K.bs w w':=by
 refine h.only.below (Nat.le_of_lt hc.size.1) fun x hx=>?_
 simp only[List.mem_cons,List.mem_append,Option.mem_toList]at hx
 rcases hx with hx|hx|hx
 ·have:=hc.bc;omega
 ·have:=own_ge hc.os x hx;omega
 ·have:=own_ge hc.ob x hx;omega
def Bad (w w':World) (K:KX) (vs vb:Value):Prop:=∃vs' vb',NW w w' K.cb vs vb vs' vb'
theorem Bad.of (h:NW w w' K.cb vs vb vs' vb'):Bad w w' K vs vb:=⟨_,_,h⟩
theorem NW.bad {w1 w2:World} {vs1 vb1:Value} (h:NW w w1 K.cb vs vb vs1 vb1) (hb:Bad w1 w2 K vs1 vb1):Bad w w2 K vs vb:=by
 obtain⟨_,_,k⟩:=hb
 exact⟨_,_,h.trans k⟩
theorem CK.quiet (h:CK w K vs vb cs st) (hb:Below w.heap.size w w'):CK w' K vs vb cs st :=
 ⟨(hb.block K.cb h.size.2).trans h.blk,h.bc,own_only3 (S:=[]) h.os (Only.of_below hb) (by simp),own_only3 (S:=[]) h.ob (Only.of_below hb) (by simp),h.as_,h.ab,h.av,fun b hm=>(h.rr b hm).step (NW.quiet (Only.of_below hb)),fun q hq=>Nat.lt_of_lt_of_le (h.fz q hq) hb.size⟩
theorem NW.of_below (hb:Below w.heap.size w w'):NW w w' K.cb vs vb vs vb:=NW.quiet (Only.of_below hb)
theorem CK.c4 (h:CK w K vs vb cs st):w.cell? ⟨K.cb,4,none⟩=some vs:=cell_blk h.blk 4
theorem CK.c5 (h:CK w K vs vb cs st):w.cell? ⟨K.cb,5,none⟩=some vb:=cell_blk h.blk 5
theorem CK.free (h:CK w K vs vb cs st) (i:Nat):w.frozen? ⟨K.cb,i,none⟩=false:=frozen_blk h.blk i
theorem CK.set_st (h:CK w K vs vb cs st) {w2:World} {st2:List UInt8} (hg:Grows w w2 vs vs') (ho:w2.ownsRow K.bs 133 1 vs' st2.length (st2.map B)) :
  CK (w2.setCell ⟨K.cb,4,none⟩ vs') K vs' vb cs st2∧NW w (w2.setCell ⟨K.cb,4,none⟩ vs') K.cb vs vb vs' vb:=by
 have hcb:=h.size.2
 have hblk:w2.heap[K.cb]?=some (.cells #[K.c0,K.c1,K.c2,K.c3,vs,vb] 149 (0,0)):=(hg.only.block K.cb hcb (fun hm=>h.as_ (by simpa using hm))).trans h.blk
 have hl:Lies w vs vs':=hg.lies
 have hob:=own_only3 h.ob hg.only (fun g hg' hm=>h.av g (by simpa using hm) hg')
 have hnw:NW w (w2.setCell ⟨K.cb,4,none⟩ vs') K.cb vs vb vs' vb :=
  ⟨(hg.only.more (by simp;intro x hx;exact .inr (.inl hx))).trans (Only.setCell w2 (p:=⟨K.cb,4,none⟩) (by simp) _),hl,Lies.refl _ _⟩
 have ha:vs'.ownBlock≠some K.cb:=hl.apart h.as_ hcb
 refine⟨⟨?_,h.bc,?_,?_,ha,h.ab,fun g hg' he=>hl.apart (g:=g) (fun e=>h.av g e he) (own_lt h.ob g he) hg',fun b hm=>(h.rr b hm).step hnw,fun q hq=>Nat.lt_of_lt_of_le (h.fz q hq) hnw.only.size⟩,hnw⟩
 ·rw[setCell_blk hblk];rfl
 ·exact own_only3 ho (Only.setCell (S:=[K.cb]) w2 (p:=⟨K.cb,4,none⟩) (by simp) _) (fun g hg' hm=>ha (by rw[hg'];simp at hm;rw[hm]))
 ·exact own_only3 hob (Only.setCell (S:=[K.cb]) w2 (p:=⟨K.cb,4,none⟩) (by simp) _) (fun g hg' hm=>h.ab (by rw[hg'];simp at hm;rw[hm]))
theorem CK.set_bl (h:CK w K vs vb cs st) {w2:World} {cs2:List CB} (hg:Grows w w2 vb vb') (ho:w2.ownsRow K.bs 146 5 vb' cs2.length (cs2.flatMap CB.cs)) (hr:∀b∈cs2,ResIn w K vs vb b.res) :
  CK (w2.setCell ⟨K.cb,5,none⟩ vb') K vs vb' cs2 st∧NW w (w2.setCell ⟨K.cb,5,none⟩ vb') K.cb vs vb vs vb':=by
 have hcb:=h.size.2
 have hblk:w2.heap[K.cb]?=some (.cells #[K.c0,K.c1,K.c2,K.c3,vs,vb] 149 (0,0)):=(hg.only.block K.cb hcb (fun hm=>h.ab (by simpa using hm))).trans h.blk
 have hl:Lies w vb vb':=hg.lies
 have hos:=own_only3 h.os hg.only (fun g hg' hm=>h.av g hg' (by simpa using hm))
 have hnw:NW w (w2.setCell ⟨K.cb,5,none⟩ vb') K.cb vs vb vs vb' :=
  ⟨(hg.only.more (by simp;intro x hx;exact .inr (.inr hx))).trans (Only.setCell w2 (p:=⟨K.cb,5,none⟩) (by simp) _),Lies.refl _ _,hl⟩
 have ha:vb'.ownBlock≠some K.cb:=hl.apart h.ab hcb
 refine⟨⟨?_,h.bc,?_,?_,h.as_,ha,fun g hg'=>hl.apart (h.av g hg') (own_lt h.os g hg'),fun b hm=>(hr b hm).step hnw,fun q hq=>Nat.lt_of_lt_of_le (h.fz q hq) hnw.only.size⟩,hnw⟩
 ·rw[setCell_blk hblk];rfl
 ·exact own_only3 hos (Only.setCell (S:=[K.cb]) w2 (p:=⟨K.cb,5,none⟩) (by simp) _) (fun g hg' hm=>h.as_ (by rw[hg'];simp at hm;rw[hm]))
 ·exact own_only3 ho (Only.setCell (S:=[K.cb]) w2 (p:=⟨K.cb,5,none⟩) (by simp) _) (fun g hg' hm=>ha (by rw[hg'];simp at hm;rw[hm]))
theorem CK.set_cell (h:CK w K vs vb cs st) {g i j:Nat} {b b2:CB} {u:Value} (hg:vb.ownBlock=some g) (hi:cs[i]?=some b) (hj:j<5) (hb:CB.cs b2=(CB.cs b).set j u) (hres:b2.res=b.res) :
  CK (w.setCell ⟨g,i*5+j,none⟩ u) K vs vb (cs.set i b2) st∧NW w (w.setCell ⟨g,i*5+j,none⟩ u) K.cb vs vb vs vb:=by
 have hlt:=lt_some hi
 have ho:Only [g] w (w.setCell ⟨g,i*5+j,none⟩ u):=Only.setCell w (p:=⟨g,i*5+j,none⟩) (by simp) _
 have hnw:NW w (w.setCell ⟨g,i*5+j,none⟩ u) K.cb vs vb vs vb:=⟨ho.more (by intro q hq;simp at hq;subst hq;simp[hg]),Lies.refl _ _,Lies.refl _ _⟩
 refine⟨⟨(ho.block K.cb h.size.2 (fun hm=>h.ab (by rw[hg];simp at hm;rw[hm]))).trans h.blk,h.bc,own_only3 h.os ho (fun q hq hm=>h.av q hq (by rw[hg];simp at hm;rw[hm])),?_,h.as_,h.ab,h.av,fun b' hm=>?_,fun q hq=>Nat.lt_of_lt_of_le (h.fz q hq) hnw.only.size⟩,hnw⟩
 ·refine own_cast (own_setCell h.ob hg (i*5+j) (by have:=Nat.mul_le_mul_right 5 (show i+1≤cs.length from hlt);rw[Nat.succ_mul]at this;omega) u) (by simp) ?_
  exact flatMap_set (dec:=CB.cs) (fun _=>rfl) cs i j _ b2 _ hi hj hb
 ·rcases List.mem_or_eq_of_mem_set hm with hm|hm
  ·exact(h.rr b' hm).step hnw
  ·subst hm
   rw[hres]
   exact(h.rr b (List.mem_of_getElem? hi)).step hnw
theorem CK.cells (h:CK w K vs vb cs st) {g i:Nat} {b:CB} (hg:vb.ownBlock=some g) (hi:cs[i]?=some b) :
  w.cell? ⟨g,i*5,none⟩=some (.bool b.lp)∧w.cell? ⟨g,i*5+1,none⟩=some (.bool b.is_)∧w.cell? ⟨g,i*5+2,none⟩=some (.slice b.res.at_ b.res.l.length b.res.cap)∧w.cell? ⟨g,i*5+3,none⟩=some (.int .i64 (b.h:Int))∧w.cell? ⟨g,i*5+4,none⟩=some (.bool b.dead):=by
 have hk:=own_cell (g:=g) (dec:=CB.cs) (fun _=>rfl) h.ob hg hi
 exact⟨hk 0 (by omega) _ rfl,hk 1 (by omega) _ rfl,hk 2 (by omega) _ rfl,hk 3 (by omega) _ rfl,hk 4 (by omega) _ rfl⟩
theorem CK.rowf (h:CK w K vs vb cs st) {g:Nat} (hg:vb.ownBlock=some g) (i:Nat):w.frozen? ⟨g,i,none⟩=false:=own_free h.ob hg i
end
def psOf (cs:List CB) (st:List UInt8):PS:=⟨st,cs.map CB.p⟩
theorem i64_sub (n i:Nat) (h:n=i+1) (hn:n≤1000000000):IntKind.i64.wrap ((n:Int)-1)=(i:Int):=by rw[IntWalk.i64_in _ (by omega)];omega
theorem own_some {w:World} {base:Nat} {e:TypeId} {size n:Nat} {v:Value} {xs:List Value} (h:w.ownsRow base e size v n xs) (hn:0<n):∃g c,v=.slice (some ⟨g,0,none⟩) n c:=by
 obtain⟨g,c,hv,_⟩:=h.form hn
 exact⟨g,c,hv⟩
set_option maxRecDepth 100000 in
theorem ctop_any (K:KX) (vs:Value) (cs:List CB) (st:List UInt8) (g n c i:Nat) (w:World) (h:Hid (CK w K vs (.slice (some ⟨g,0,none⟩) n c) cs st)) (hi:n=i+1) (hn:n≤1000000) :
  Calls Tryz.prog 149 #[.pointer (some ⟨K.cb,0,none⟩)] w fun e w'=>e=.returned (.pointer (some ⟨g,i*5,none⟩))∧Hid (Below w.heap.size w w'):=by
 have c5:=h.out.c5
 have e1:=i64_sub n i hi (by omega)
 have e2:(n:Int)-1=(i:Int):=by omega
 have e3:(i:Int)<(n:Int):=by omega
 have e4:i≤1000000:=by omega
 clear hi
 go_enter Tryz.func149,Tryz.ntmps149
 go_wp2_with fail
 go_quiet (fail)
 go_wp2_with fail
 go_ret
 exact⟨rfl,below_dr (Below.refl _ _) _⟩
theorem type_elem16:IsElem Tryz.prog 73 133 1 1:=IsElem.mk' Tryz.underlying73 (z:=.int .u8 0) (by kernel_rfl) rfl (by omega)
set_option maxRecDepth 100000 in
theorem cpush_any (K:KX) (vs vb:Value) (cs:List CB) (st:List UInt8) (A:Option Addr) (c n:Nat) (l:List UInt8) (w:World) (h:Hid (CK w K vs vb cs st)) (hr:Hid (Reads w w.heap.size 1 A n (l.map B))) (hln:Hid (l.length=n)) (hs:st.length≤10000000) (hl:n≤100000) :
  Calls Tryz.prog 134 #[.pointer (some ⟨K.cb,0,none⟩),.slice A n c] w fun e w'=>∃vs',e=.returned (.tuple #[])∧Hid (CK w' K vs' vb cs (st++l))∧Hid (NW w w' K.cb vs vb vs' vb):=by
 have c4:=h.out.c4
 have hroom:Room st.length n 1:=room_of (by omega) (by omega)
 have hsz:=Nat.le_of_lt h.out.size.1
 obtain⟨A4,q4,hv4,_,_⟩:=own_form h.out.os
 subst hv4
 have HOS:=hide h.out.os
 have HBK:Hid (∀v3 w3,Grows w w3 (.slice A4 st.length q4) v3→w3.heap[K.cb]?=some (.cells #[K.c0,K.c1,K.c2,K.c3,.slice A4 st.length q4,vb] 149 (0,0))):=fun v3 w3 hg=>(hg.only.block K.cb h.out.size.2 (fun hm=>h.out.as_ (by simpa using hm))).trans h.out.blk
 have HLN:Hid ((st++l).length=st.length+n):=by show _=_;rw[List.length_append,hln.out]
 go_enter Tryz.func134,Tryz.ntmps134
 go_wp2_with (at_builtin;refine wpList_append_any rfl _ _ rfl K.bs type_elem16 (.slice A4 st.length q4) st.length (st.map B) rfl HOS.out w.heap.size A n c (l.map B) rfl hr.out (B_map_one _) hroom hsz ?_;intro v' w3 ho3 hg3;have ho3':=hide (h.out.set_st (st2:=st++l) hg3 (own_cast ho3 HLN.out.symm (by rw[List.map_append])));have y4:=cell_blk (HBK.out _ _ hg3) 4;have z4:=frozen_blk (HBK.out _ _ hg3) 4;obtain⟨A5,c5,rfl,_,_⟩:=own_form ho3;simp at y4;clear ho3 hg3)
 go_end0
 exact⟨_,rfl,ho3'.out.1,ho3'.out.2⟩
theorem beq8 (a b:UInt8):((a.toNat:Int)==(b.toNat:Int))=(a==b):=by
 rw[Bool.eq_iff_iff]
 simp only[beq_iff_eq]
 rw[←UInt8.toNat_inj]
 omega
theorem beq80 (a:UInt8):((a.toNat:Int)==0)=(a==0):=beq8 a 0
set_option maxRecDepth 100000 in
set_option maxHeartbeats 1600000 in
theorem cpop_any (K:KX) (vs vb:Value) (cs:List CB) (st:List UInt8) (want:UInt8) (w:World) (h:Hid (CK w K vs vb cs st)) (hv:InvP (psOf cs st)) (hs:st.length≤10000000) (hcl:cs.length≤100000) :
  Calls Tryz.prog 128 #[.pointer (some ⟨K.cb,0,none⟩),.int .u8 (want.toNat:Int)] w fun e w'=>match popP (psOf cs st) want with
   | .ok q=>∃vs',e=.returned (.int .u8 (q.2.toNat:Int))∧Hid (CK w' K vs' vb cs q.1.st)∧Hid (NW w w' K.cb vs vb vs' vb)∧q.1.bl=cs.map CB.p
   | .bad n=>e=flt n∧Hid (Bad w w' K vs vb):=by
 have hne:cs≠[]:=fun e=>hv.ne (by unfold psOf;rw[e];rfl)
 obtain⟨i,hi⟩:∃i,cs.length=i+1:=⟨cs.length-1,by have:=List.length_pos_iff.2 hne;omega⟩
 obtain⟨b,hb⟩:∃b,cs[i]?=some b:=⟨_,List.getElem?_eq_getElem (by omega)⟩
 have htop:(psOf cs st).top=b.p:=by
  unfold PS.top psOf
  simp only[List.length_map]
  rw[hi,Nat.add_sub_cancel]
  exact getD_some (by rw[List.getElem?_map,hb];rfl)
 have hbh:b.h≤st.length:=by have:=hv.top;rw[htop]at this;exact this
 obtain⟨g,c,hvb⟩:=own_some h.out.ob (by omega)
 subst hvb
 obtain⟨k0,k1,k2,k3,k4⟩:=h.out.cells (g:=g) rfl hb
 have HT:=hide (ctop_any K vs cs st g cs.length c i w h hi (by omega))
 obtain⟨A4,q4,hv4,hq4,hq5⟩:=own_form h.out.os
 subst hv4
 unfold popP
 rw[htop]
 simp only[show (psOf cs st).st=st from rfl,show b.p.h=b.h from rfl,show b.p.dead=b.dead from rfl,show (psOf cs st).bl=cs.map CB.p from rfl]
 by_cases hh:st.length=b.h
 ·rw[if_pos hh]
  rw[←hh]at k3
  cases hd:b.dead with
  | true =>
   rw[hd]at k4
   simp only[need,if_true]
   go_enter Tryz.func128,Tryz.ntmps128
   go_wp2_with fail
   refine HT.out.mono ?_;rintro e w1 ⟨rfl,h1⟩
   have hk1:=hide (h.out.quiet h1.out)
   obtain⟨_,_,_,j3,j4⟩:=hk1.out.cells (g:=g) rfl hb
   have j5:=hk1.out.c4
   rw[hd]at j4
   rw[←hh]at j3
   clear HT hq4 hq5 hb htop hd k0 k1 k2 k3 k4 hh hbh hi
   go_wp2_with fail
   go_quiet (fail)
   go_wp2_with fail
   refine(must_yes _ _).mono ?_;rintro e w2 ⟨rfl,rfl⟩
   go_wp2_with fail
   go_ret
   exact⟨_,rfl,hk1.out.quiet (below_dr (Below.refl _ _) _),(NW.of_below h1.out).trans (NW.of_below (below_dr (Below.refl _ _) _)),rfl⟩
  | false =>
   rw[hd]at k4
   simp only[need,Bool.false_eq_true,if_false]
   go_enter Tryz.func128,Tryz.ntmps128
   go_wp2_with fail
   refine HT.out.mono ?_;rintro e w1 ⟨rfl,h1⟩
   have hk1:=hide (h.out.quiet h1.out)
   obtain⟨_,_,_,j3,j4⟩:=hk1.out.cells (g:=g) rfl hb
   have j5:=hk1.out.c4
   rw[hd]at j4
   rw[←hh]at j3
   have hbs:=Nat.le_of_lt h.out.size.1
   clear HT hq4 hq5 hb htop hd k0 k1 k2 k3 k4 hh hbh hi
   go_wp2_with fail
   go_quiet (fail)
   go_wp2_with fail
   refine(must_no 5 5 rfl _).mono ?_;rintro e w2 ⟨rfl,rfl⟩
   unfold flt
   go_wp2_with fail
   exact⟨rfl,rfl,Bad.of (NW.of_below (below_dr h1.out _))⟩
 ·rw[if_neg hh]
  obtain⟨m,hm⟩:∃m,st.length=m+1:=⟨st.length-1,by omega⟩
  obtain⟨got,hgot⟩:∃got,st[m]?=some got:=⟨_,List.getElem?_eq_getElem (by omega)⟩
  have hgv:st.getD (st.length-1) 0=got:=by rw[hm,Nat.add_sub_cancel];exact getD_some hgot
  rw[hgv]
  have hm1:st.length-1=m:=by omega
  rw[hm1]
  have E1:=beq8 got want
  have E2:=beq80 got
  have E3:=beq80 want
  have hg0:(got=0)↔(got==0)=true:=by simp
  simp only[hg0]
  obtain⟨g4,hg4⟩:∃g4,A4=some ⟨g4,0,none⟩:=by
   obtain⟨g4,c4,e,_⟩:=h.out.os.form (by omega)
   injection e with e
   exact⟨g4,e⟩
  subst hg4
  have hne1:((st.length:Int)==(b.h:Int))=false:=by simp;omega
  obtain⟨n,hn⟩:∃n,st.length=n:=⟨_,rfl⟩
  have hnm:n=m+1:=by omega
  have s1:=i64_sub n m hnm (by omega)
  have s2:(n:Int)-1=(m:Int):=by omega
  have s3:(m:Int)<(n:Int):=by omega
  have s4:m≤10000000:=by omega
  have s5:m≤n:=by omega
  have s6:n≤q4:=by omega
  have HLT:Hid ((st.take m).length=m):=by show _=_;rw[List.length_take];omega
  have hbs:=Nat.le_of_lt h.out.size.1
  have HMid:Hid (∀(w1:World),CK w1 K (.slice (some ⟨g4,0,none⟩) st.length q4) (.slice (some ⟨g,0,none⟩) cs.length c) cs st →
    w1.cell? ⟨g4,m,none⟩=some (.int .u8 (got.toNat:Int))∧CK (w1.setCell ⟨K.cb,4,none⟩ (.slice (some ⟨g4,0,none⟩) m q4)) K (.slice (some ⟨g4,0,none⟩) m q4) (.slice (some ⟨g,0,none⟩) cs.length c) cs (st.take m) ∧
    NW w1 (w1.setCell ⟨K.cb,4,none⟩ (.slice (some ⟨g4,0,none⟩) m q4)) K.cb (.slice (some ⟨g4,0,none⟩) st.length q4) (.slice (some ⟨g,0,none⟩) cs.length c) (.slice (some ⟨g4,0,none⟩) m q4) (.slice (some ⟨g,0,none⟩) cs.length c)):=by
   intro w1 hk
   refine⟨?_,?_⟩
   ·have:=hk.os.cells (g:=g4) rfl m (B got) (by rw[List.getElem?_map,hgot];rfl)
    rwa [show Addr.add ⟨g4,0,none⟩ m=⟨g4,m,none⟩from by unfold Addr.add;split<;>simp_all]at this
   ·have ho:=hk.os
    rw[hm]at ho
    have ho2:=own_short ho
    rw[Nat.mul_one,←List.map_take]at ho2
    exact hk.set_st (vs':=.slice (some ⟨g4,0,none⟩) m q4) (st2:=st.take m) ⟨⟨rfl,rfl,rfl,Nat.le_refl _,fun _ _ _=>rfl⟩,.inl rfl⟩ (own_cast ho2 HLT.out.symm rfl)
  rw[hn]at hne1 HMid h
  rw[hn]
  have hgn:(got.toNat:Int)≤255:=by have:=got.toNat_lt;omega
  clear hq4 hq5 htop k0 k1 k2 k3 k4 hh hbh hv hgv hm1 hg0 hgot hs hm hn hnm
  generalize (got==want)=p1 at *
  generalize (got==0)=p2 at *
  generalize (want==0)=p3 at *
  cases p1<;>cases p2<;>cases p3<;>simp only[need,Bool.or_false,Bool.or_true,if_true,Bool.false_eq_true,if_false]
  ·go_enter Tryz.func128,Tryz.ntmps128
   go_wp2_with fail
   refine HT.out.mono ?_;rintro e w1 ⟨rfl,h1⟩
   have hk1:=hide (h.out.quiet h1.out)
   obtain⟨_,_,_,j3,_⟩:=hk1.out.cells (g:=g) rfl hb
   have j5:=hk1.out.c4
   go_wp2_with fail
   go_quiet (fail)
   have hk2:=hide (hk1.out.quiet (below_dr (Below.refl _ _) nq))
   have hb2:=hide (below_dr h1.out nq)
   generalize w1.drewN nq=w2 at *
   clear j3 j5 hk1 h1 HT
   have j5:=hk2.out.c4
   have jm:=(HMid.out w2 hk2.out).1
   go_wp2_with fail
   go_quiet (fail)
   have hk3:=hide (hk2.out.quiet (below_dr (Below.refl _ _) nq))
   have hb3:=hide (below_dr hb2.out nq)
   generalize w2.drewN nq=w3 at *
   clear j5 jm hk2 hb2
   have C5:=fun k:ExtW w3=>k.cell hk3.out.c4
   go_wp2_with fail
   refine wp_region_ext_last (l:=[_,_,_,_,_,_,_,_,_,_,_,_,_,_]) (o:=_) (by kernel_rfl) (by kernel_rfl) (by kernel_rfl) (by kernel_rfl) ?_
   repeat (go_big_quiet_step (fail))
   refine wpQuiet_nil ?_
   intro k
   have hk4:=hide (hk3.out.quiet k.b)
   have y4:=hk4.out.c4
   have z4:=hk4.out.free 4
   have hnx:=hide (HMid.out k.w hk4.out).2
   go_wp2_with fail
   refine(must_no 5 5 rfl _).mono ?_;rintro e w5 ⟨rfl,rfl⟩
   unfold flt
   go_wp2_with fail
   exact⟨rfl,rfl,Bad.of (((NW.of_below (K:=K) (vs:=.slice (some ⟨g4,0,none⟩) n q4) (vb:=.slice (some ⟨g,0,none⟩) cs.length c) hb3.out).trans (NW.of_below k.b)).trans hnx.out.2)⟩
  ·go_enter Tryz.func128,Tryz.ntmps128
   go_wp2_with fail
   refine HT.out.mono ?_;rintro e w1 ⟨rfl,h1⟩
   have hk1:=hide (h.out.quiet h1.out)
   obtain⟨_,_,_,j3,_⟩:=hk1.out.cells (g:=g) rfl hb
   have j5:=hk1.out.c4
   go_wp2_with fail
   go_quiet (fail)
   have hk2:=hide (hk1.out.quiet (below_dr (Below.refl _ _) nq))
   have hb2:=hide (below_dr h1.out nq)
   generalize w1.drewN nq=w2 at *
   clear j3 j5 hk1 h1 HT
   have j5:=hk2.out.c4
   have jm:=(HMid.out w2 hk2.out).1
   go_wp2_with fail
   go_quiet (fail)
   have hk3:=hide (hk2.out.quiet (below_dr (Below.refl _ _) nq))
   have hb3:=hide (below_dr hb2.out nq)
   generalize w2.drewN nq=w3 at *
   clear j5 jm hk2 hb2
   have C5:=fun k:ExtW w3=>k.cell hk3.out.c4
   go_wp2_with fail
   refine wp_region_ext_last (l:=[_,_,_,_,_,_,_,_,_,_,_,_,_,_]) (o:=_) (by kernel_rfl) (by kernel_rfl) (by kernel_rfl) (by kernel_rfl) ?_
   repeat (go_big_quiet_step (fail))
   refine wpQuiet_nil ?_
   intro k
   have hk4:=hide (hk3.out.quiet k.b)
   have y4:=hk4.out.c4
   have z4:=hk4.out.free 4
   have hnx:=hide (HMid.out k.w hk4.out).2
   go_wp2_with fail
   refine(must_yes _ _).mono ?_;rintro e w5 ⟨rfl,rfl⟩
   go_wp2_with fail
   go_ret
   exact⟨_,rfl,hnx.out.1,((NW.of_below hb3.out).trans (NW.of_below k.b)).trans hnx.out.2,(by first|trivial|rfl)⟩
  ·go_enter Tryz.func128,Tryz.ntmps128
   go_wp2_with fail
   refine HT.out.mono ?_;rintro e w1 ⟨rfl,h1⟩
   have hk1:=hide (h.out.quiet h1.out)
   obtain⟨_,_,_,j3,_⟩:=hk1.out.cells (g:=g) rfl hb
   have j5:=hk1.out.c4
   go_wp2_with fail
   go_quiet (fail)
   have hk2:=hide (hk1.out.quiet (below_dr (Below.refl _ _) nq))
   have hb2:=hide (below_dr h1.out nq)
   generalize w1.drewN nq=w2 at *
   clear j3 j5 hk1 h1 HT
   have j5:=hk2.out.c4
   have jm:=(HMid.out w2 hk2.out).1
   go_wp2_with fail
   go_quiet (fail)
   have hk3:=hide (hk2.out.quiet (below_dr (Below.refl _ _) nq))
   have hb3:=hide (below_dr hb2.out nq)
   generalize w2.drewN nq=w3 at *
   clear j5 jm hk2 hb2
   have C5:=fun k:ExtW w3=>k.cell hk3.out.c4
   go_wp2_with fail
   refine wp_region_ext_last (l:=[_,_,_,_,_,_,_,_,_,_,_,_,_,_]) (o:=_) (by kernel_rfl) (by kernel_rfl) (by kernel_rfl) (by kernel_rfl) ?_
   repeat (go_big_quiet_step (fail))
   refine wpQuiet_nil ?_
   intro k
   have hk4:=hide (hk3.out.quiet k.b)
   have y4:=hk4.out.c4
   have z4:=hk4.out.free 4
   have hnx:=hide (HMid.out k.w hk4.out).2
   go_wp2_with fail
   refine(must_yes _ _).mono ?_;rintro e w5 ⟨rfl,rfl⟩
   go_wp2_with fail
   go_ret
   exact⟨_,rfl,hnx.out.1,((NW.of_below hb3.out).trans (NW.of_below k.b)).trans hnx.out.2,(by first|trivial|rfl)⟩
  ·go_enter Tryz.func128,Tryz.ntmps128
   go_wp2_with fail
   refine HT.out.mono ?_;rintro e w1 ⟨rfl,h1⟩
   have hk1:=hide (h.out.quiet h1.out)
   obtain⟨_,_,_,j3,_⟩:=hk1.out.cells (g:=g) rfl hb
   have j5:=hk1.out.c4
   go_wp2_with fail
   go_quiet (fail)
   have hk2:=hide (hk1.out.quiet (below_dr (Below.refl _ _) nq))
   have hb2:=hide (below_dr h1.out nq)
   generalize w1.drewN nq=w2 at *
   clear j3 j5 hk1 h1 HT
   have j5:=hk2.out.c4
   have jm:=(HMid.out w2 hk2.out).1
   go_wp2_with fail
   go_quiet (fail)
   have hk3:=hide (hk2.out.quiet (below_dr (Below.refl _ _) nq))
   have hb3:=hide (below_dr hb2.out nq)
   generalize w2.drewN nq=w3 at *
   clear j5 jm hk2 hb2
   have C5:=fun k:ExtW w3=>k.cell hk3.out.c4
   go_wp2_with fail
   refine wp_region_ext_last (l:=[_,_,_,_,_,_,_,_,_,_,_,_,_,_]) (o:=_) (by kernel_rfl) (by kernel_rfl) (by kernel_rfl) (by kernel_rfl) ?_
   repeat (go_big_quiet_step (fail))
   refine wpQuiet_nil ?_
   intro k
   have hk4:=hide (hk3.out.quiet k.b)
   have y4:=hk4.out.c4
   have z4:=hk4.out.free 4
   have hnx:=hide (HMid.out k.w hk4.out).2
   go_wp2_with fail
   refine(must_yes _ _).mono ?_;rintro e w5 ⟨rfl,rfl⟩
   go_wp2_with fail
   go_ret
   exact⟨_,rfl,hnx.out.1,((NW.of_below hb3.out).trans (NW.of_below k.b)).trans hnx.out.2,(by first|trivial|rfl)⟩
  ·go_enter Tryz.func128,Tryz.ntmps128
   go_wp2_with fail
   refine HT.out.mono ?_;rintro e w1 ⟨rfl,h1⟩
   have hk1:=hide (h.out.quiet h1.out)
   obtain⟨_,_,_,j3,_⟩:=hk1.out.cells (g:=g) rfl hb
   have j5:=hk1.out.c4
   go_wp2_with fail
   go_quiet (fail)
   have hk2:=hide (hk1.out.quiet (below_dr (Below.refl _ _) nq))
   have hb2:=hide (below_dr h1.out nq)
   generalize w1.drewN nq=w2 at *
   clear j3 j5 hk1 h1 HT
   have j5:=hk2.out.c4
   have jm:=(HMid.out w2 hk2.out).1
   go_wp2_with fail
   go_quiet (fail)
   have hk3:=hide (hk2.out.quiet (below_dr (Below.refl _ _) nq))
   have hb3:=hide (below_dr hb2.out nq)
   generalize w2.drewN nq=w3 at *
   clear j5 jm hk2 hb2
   have C5:=fun k:ExtW w3=>k.cell hk3.out.c4
   go_wp2_with fail
   refine wp_region_ext_last (l:=[_,_,_,_,_,_,_,_,_,_,_,_,_,_]) (o:=_) (by kernel_rfl) (by kernel_rfl) (by kernel_rfl) (by kernel_rfl) ?_
   repeat (go_big_quiet_step (fail))
   refine wpQuiet_nil ?_
   intro k
   have hk4:=hide (hk3.out.quiet k.b)
   have y4:=hk4.out.c4
   have z4:=hk4.out.free 4
   have hnx:=hide (HMid.out k.w hk4.out).2
   go_wp2_with fail
   refine(must_yes _ _).mono ?_;rintro e w5 ⟨rfl,rfl⟩
   go_wp2_with fail
   go_ret
   exact⟨_,rfl,hnx.out.1,((NW.of_below hb3.out).trans (NW.of_below k.b)).trans hnx.out.2,(by first|trivial|rfl)⟩
  ·go_enter Tryz.func128,Tryz.ntmps128
   go_wp2_with fail
   refine HT.out.mono ?_;rintro e w1 ⟨rfl,h1⟩
   have hk1:=hide (h.out.quiet h1.out)
   obtain⟨_,_,_,j3,_⟩:=hk1.out.cells (g:=g) rfl hb
   have j5:=hk1.out.c4
   go_wp2_with fail
   go_quiet (fail)
   have hk2:=hide (hk1.out.quiet (below_dr (Below.refl _ _) nq))
   have hb2:=hide (below_dr h1.out nq)
   generalize w1.drewN nq=w2 at *
   clear j3 j5 hk1 h1 HT
   have j5:=hk2.out.c4
   have jm:=(HMid.out w2 hk2.out).1
   go_wp2_with fail
   go_quiet (fail)
   have hk3:=hide (hk2.out.quiet (below_dr (Below.refl _ _) nq))
   have hb3:=hide (below_dr hb2.out nq)
   generalize w2.drewN nq=w3 at *
   clear j5 jm hk2 hb2
   have C5:=fun k:ExtW w3=>k.cell hk3.out.c4
   go_wp2_with fail
   refine wp_region_ext_last (l:=[_,_,_,_,_,_,_,_,_,_,_,_,_,_]) (o:=_) (by kernel_rfl) (by kernel_rfl) (by kernel_rfl) (by kernel_rfl) ?_
   repeat (go_big_quiet_step (fail))
   refine wpQuiet_nil ?_
   intro k
   have hk4:=hide (hk3.out.quiet k.b)
   have y4:=hk4.out.c4
   have z4:=hk4.out.free 4
   have hnx:=hide (HMid.out k.w hk4.out).2
   go_wp2_with fail
   refine(must_yes _ _).mono ?_;rintro e w5 ⟨rfl,rfl⟩
   go_wp2_with fail
   go_ret
   exact⟨_,rfl,hnx.out.1,((NW.of_below hb3.out).trans (NW.of_below k.b)).trans hnx.out.2,(by first|trivial|rfl)⟩
  ·go_enter Tryz.func128,Tryz.ntmps128
   go_wp2_with fail
   refine HT.out.mono ?_;rintro e w1 ⟨rfl,h1⟩
   have hk1:=hide (h.out.quiet h1.out)
   obtain⟨_,_,_,j3,_⟩:=hk1.out.cells (g:=g) rfl hb
   have j5:=hk1.out.c4
   go_wp2_with fail
   go_quiet (fail)
   have hk2:=hide (hk1.out.quiet (below_dr (Below.refl _ _) nq))
   have hb2:=hide (below_dr h1.out nq)
   generalize w1.drewN nq=w2 at *
   clear j3 j5 hk1 h1 HT
   have j5:=hk2.out.c4
   have jm:=(HMid.out w2 hk2.out).1
   go_wp2_with fail
   go_quiet (fail)
   have hk3:=hide (hk2.out.quiet (below_dr (Below.refl _ _) nq))
   have hb3:=hide (below_dr hb2.out nq)
   generalize w2.drewN nq=w3 at *
   clear j5 jm hk2 hb2
   have C5:=fun k:ExtW w3=>k.cell hk3.out.c4
   go_wp2_with fail
   refine wp_region_ext_last (l:=[_,_,_,_,_,_,_,_,_,_,_,_,_,_]) (o:=_) (by kernel_rfl) (by kernel_rfl) (by kernel_rfl) (by kernel_rfl) ?_
   repeat (go_big_quiet_step (fail))
   refine wpQuiet_nil ?_
   intro k
   have hk4:=hide (hk3.out.quiet k.b)
   have y4:=hk4.out.c4
   have z4:=hk4.out.free 4
   have hnx:=hide (HMid.out k.w hk4.out).2
   go_wp2_with fail
   refine(must_yes _ _).mono ?_;rintro e w5 ⟨rfl,rfl⟩
   go_wp2_with fail
   go_ret
   exact⟨_,rfl,hnx.out.1,((NW.of_below hb3.out).trans (NW.of_below k.b)).trans hnx.out.2,(by first|trivial|rfl)⟩
  ·go_enter Tryz.func128,Tryz.ntmps128
   go_wp2_with fail
   refine HT.out.mono ?_;rintro e w1 ⟨rfl,h1⟩
   have hk1:=hide (h.out.quiet h1.out)
   obtain⟨_,_,_,j3,_⟩:=hk1.out.cells (g:=g) rfl hb
   have j5:=hk1.out.c4
   go_wp2_with fail
   go_quiet (fail)
   have hk2:=hide (hk1.out.quiet (below_dr (Below.refl _ _) nq))
   have hb2:=hide (below_dr h1.out nq)
   generalize w1.drewN nq=w2 at *
   clear j3 j5 hk1 h1 HT
   have j5:=hk2.out.c4
   have jm:=(HMid.out w2 hk2.out).1
   go_wp2_with fail
   go_quiet (fail)
   have hk3:=hide (hk2.out.quiet (below_dr (Below.refl _ _) nq))
   have hb3:=hide (below_dr hb2.out nq)
   generalize w2.drewN nq=w3 at *
   clear j5 jm hk2 hb2
   have C5:=fun k:ExtW w3=>k.cell hk3.out.c4
   go_wp2_with fail
   refine wp_region_ext_last (l:=[_,_,_,_,_,_,_,_,_,_,_,_,_,_]) (o:=_) (by kernel_rfl) (by kernel_rfl) (by kernel_rfl) (by kernel_rfl) ?_
   repeat (go_big_quiet_step (fail))
   refine wpQuiet_nil ?_
   intro k
   have hk4:=hide (hk3.out.quiet k.b)
   have y4:=hk4.out.c4
   have z4:=hk4.out.free 4
   have hnx:=hide (HMid.out k.w hk4.out).2
   go_wp2_with fail
   refine(must_yes _ _).mono ?_;rintro e w5 ⟨rfl,rfl⟩
   go_wp2_with fail
   go_ret
   exact⟨_,rfl,hnx.out.1,((NW.of_below hb3.out).trans (NW.of_below k.b)).trans hnx.out.2,(by first|trivial|rfl)⟩
end Go.Proofs.YtomppgohoplemaaGreat
