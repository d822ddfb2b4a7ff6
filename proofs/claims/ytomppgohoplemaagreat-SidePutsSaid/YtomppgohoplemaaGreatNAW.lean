import Derived.Test.YtomppgohoplemaaGreatNAV
import Derived.Test.YtomppgohoplemaaGreatNAU
set_option linter.unusedVariables false
namespace Go.Proofs.YtomppgohoplemaaGreat
open Go.RowKit
def StQ (w:World) (K:KX) (vs vb:Value) (cs:List CB) (r:RR PS) (v:Value) (e:Ending) (w':World):Prop:=match r with
 | .ok s=>∃vs',e=.returned v∧Hid (CK w' K vs' vb cs s.st)∧Hid (NW w w' K.cb vs vb vs' vb)∧Hid (s.bl=cs.map CB.p)
 | .bad n=>e=flt n∧Hid (Bad w w' K vs vb)
theorem psOf_eq {cs:List CB} {s:PS} (h:s.bl=cs.map CB.p):psOf cs s.st=s:=by cases s;simp[psOf]at *;exact h.symm
set_option maxRecDepth 100000 in
set_option maxHeartbeats 1600000 in
theorem cpops_any (K:KX) (vs vb:Value) (cs:List CB) (st:List UInt8) (r:Sl UInt8) (w:World) (h:Hid (CK w K vs vb cs st)) (hr:Hid (ResIn w K vs vb r)) (hv:Hid (InvP (psOf cs st))) (hs:st.length≤10000000) (hcl:cs.length≤100000) (hrl:r.l.length≤100000) :
  Calls Tryz.prog 132 #[.pointer (some ⟨K.cb,0,none⟩),.slice r.at_ r.l.length r.cap] w (StQ w K vs vb cs (popsP (psOf cs st) r.l) (.tuple #[])):=by
 obtain⟨n,hn⟩:∃n,r.l.length=n:=⟨_,rfl⟩
 have HN:=hide hn
 obtain⟨R,hR⟩:∃R,popsP (psOf cs st) r.l=R:=⟨_,rfl⟩
 have HR:=hide hR
 rw[hR,hn]
 rw[hn]at hrl
 clear hR hn
 go_enter Tryz.func132,Tryz.ntmps132
 go_wp2_with fail
 go_loopw [4] (fun i w1=>∃(k:Nat) (vs1:Value) (s1:PS),i=.int .i64 ((k:Int)-1)∧k≤n∧Hid (CK w1 K vs1 vb cs s1.st)∧Hid (s1.bl=cs.map CB.p)∧Hid (InvP s1)∧s1.st.length≤10000000∧Hid (NW w w1 K.cb vs vb vs1 vb)∧Hid (popsR s1 (r.l.take k).reverse=R)) (fun i _=>(intOf i+1).toNat)
 case atStart=>exact⟨n,vs,psOf cs st,by go_num,Nat.le_refl _,h,rfl,hv,hs,NW.of_below (Below.refl _ _),by show _=_;rw[List.take_of_length_le (by rw[HN.out];exact Nat.le_refl _)];exact HR.out⟩
 case round =>
  obtain⟨k,vs1,s1,rfl,hk,hck,hbl,hinv,hs1,hnw,hpop⟩:=hrel
  cases k with
  | zero =>
   have hend:Hid (R=.ok s1):=by
    have:=hpop.out
    simp[popsR]at this
    exact this.symm
   clear hpop
   rw[hend.out]
   go_wp2_with fail
   go_end0
   exact⟨vs1,rfl,hck,hnw,hbl⟩
  | succ k =>
   obtain⟨t,ht⟩:∃t,r.l[k]?=some t:=⟨_,List.getElem?_eq_getElem (by rw[HN.out];omega)⟩
   have hri:=hr.out.step hnw.out
   obtain⟨ad,ha,_,q0,_⟩:=hri.row.at_ (fun _=>rfl) ht
   have q0':=q0 _ rfl (by omega)
   rw[Nat.mul_one]at q0'
   unfold B at q0'
   have e1:((k+1:Nat):Int)-1=(k:Int):=by omega
   have hst:(r.l.take (k+1)).reverse=t::(r.l.take k).reverse:=by rw[List.take_add_one,ht];simp
   have hstep:=hpop.out
   rw[hst]at hstep
   have HP:=hide (cpop_any K vs1 vb cs s1.st t wr hck (by rw[psOf_eq hbl.out];exact hinv.out) hs1 hcl)
   rw[psOf_eq hbl.out]at HP
   rw[e1,ha]
   have hpok:=fun q (hq:popP s1 t=.ok q)=>popP_ok hq hinv.out
   have hlt:(k:Int)<(n:Int):=by omega
   have HPK:=hide hpok
   clear hst q0 ha hri ht hpok hpop
   cases hq:popP s1 t with
   | bad m =>
    have hend:Hid (R=.bad m):=by
     rw[←hstep];show popsR s1 (t::_)=_;unfold popsR;rw[hq];rfl
    rw[hq]at HP
    simp only at HP
    clear hstep hq
    rw[hend.out]
    go_wp2_with fail
    refine HP.out.mono ?_;rintro e w5 ⟨rfl,h5⟩
    unfold flt
    go_wp2_with fail
    exact⟨rfl,rfl,(NW.bad hnw.out h5.out)⟩
   | ok q =>
    obtain⟨i1,i2,i3⟩:=HPK.out q hq
    have hnext:Hid (popsR q.1 (r.l.take k).reverse=R):=by
     show _=_
     rw[←hstep]
     conv=>rhs;unfold popsR
     rw[hq]
     rfl
    rw[hq]at HP
    simp only at HP
    have I1:=hide i1
    have I2:=hide i2
    clear hstep hq i1 i2 HPK
    go_wp2_with fail
    refine HP.out.mono ?_;rintro e w5 ⟨vs2,rfl,hck2,hnw2,hbl2⟩
    have HBL2:=hide hbl2
    clear HP hbl2 q0'
    go_wp2_with fail
    go_roundw
    case rel=>exact⟨k,vs2,q.1,by go_num,by omega,hck2,HBL2,I1,by omega,hnw.out.trans hnw2.out,hnext⟩
    case measure=>simp[intOf]<;>omega
section
variable {P:Program}
end
theorem psOf_top {cs:List CB} {st:List UInt8} {i:Nat} {b:CB} (hi:cs.length=i+1) (hb:cs[i]?=some b):(psOf cs st).top=b.p:=by
 unfold PS.top psOf
 simp only[List.length_map]
 rw[hi,Nat.add_sub_cancel]
 exact getD_some (by rw[List.getElem?_map,hb];rfl)
theorem CK.last {w:World} {K:KX} {vs vb:Value} {cs:List CB} {st:List UInt8} (h:CK w K vs vb cs st) (hv:InvP (psOf cs st)):∃(i g c:Nat) (b:CB),cs.length=i+1∧cs[i]?=some b∧vb=.slice (some ⟨g,0,none⟩) cs.length c∧b.h≤st.length∧(psOf cs st).top=b.p:=by
 have hne:cs≠[]:=fun e=>hv.ne (by unfold psOf;rw[e];rfl)
 obtain⟨i,hi⟩:∃i,cs.length=i+1:=⟨cs.length-1,by have:=List.length_pos_iff.2 hne;omega⟩
 obtain⟨b,hb⟩:∃b,cs[i]?=some b:=⟨_,List.getElem?_eq_getElem (by omega)⟩
 have htop:=psOf_top (st:=st) hi hb
 obtain⟨g,c,hvb⟩:=own_some h.ob (by omega)
 exact⟨i,g,c,b,hi,hb,hvb,by have:=hv.top;rw[htop]at this;exact this,htop⟩
def StP (w:World) (K:KX) (vs vb:Value) (r:RR PS) (v:Value) (e:Ending) (w':World):Prop:=match r with
 | .ok s=>∃vs' vb' cs',e=.returned v∧Hid (CK w' K vs' vb' cs' s.st)∧Hid (NW w w' K.cb vs vb vs' vb')∧Hid (s.bl=cs'.map CB.p)
 | .bad n=>e=flt n∧Hid (Bad w w' K vs vb)
theorem StQ.p {w w':World} {K:KX} {vs vb v:Value} {cs:List CB} {r:RR PS} {e:Ending} (h:StQ w K vs vb cs r v e w'):StP w K vs vb r v e w':=by
 cases r with
 | ok s=>obtain⟨vs',h1,h2,h3,h4⟩:=h;exact⟨vs',vb,cs,h1,h2,h3,h4⟩
 | bad n=>exact h
set_option maxRecDepth 100000 in
set_option maxHeartbeats 1600000 in
theorem ckill_any (K:KX) (vs vb:Value) (cs:List CB) (st:List UInt8) (w:World) (h:Hid (CK w K vs vb cs st)) (hv:Hid (InvP (psOf cs st))) (hs:st.length≤10000000) (hcl:cs.length≤100000) :
  Calls Tryz.prog 127 #[.pointer (some ⟨K.cb,0,none⟩)] w (StP w K vs vb (.ok (killP (psOf cs st))) (.tuple #[])):=by
 obtain⟨i,g,c,b,hi,hb,hvb,hbh,htop⟩:=h.out.last hv.out
 subst hvb
 have HT:=hide (ctop_any K vs cs st g cs.length c i w h hi (by omega))
 obtain⟨A4,q4,hv4,hq4,hq5⟩:=own_form h.out.os
 subst hv4
 have hlen:Hid ((st.take b.h).length=b.h):=by show _=_;rw[List.length_take];omega
 have HS:Hid (∀w1:World,CK w1 K (.slice A4 st.length q4) (.slice (some ⟨g,0,none⟩) cs.length c) cs st →
   CK ((w1.setCell ⟨K.cb,4,none⟩ (.slice A4 b.h q4)).setCell ⟨g,i*5+4,none⟩ (.bool true)) K (.slice A4 b.h q4) (.slice (some ⟨g,0,none⟩) cs.length c) (cs.set i { b with dead:=true }) (st.take b.h) ∧
   NW w1 ((w1.setCell ⟨K.cb,4,none⟩ (.slice A4 b.h q4)).setCell ⟨g,i*5+4,none⟩ (.bool true)) K.cb (.slice A4 st.length q4) (.slice (some ⟨g,0,none⟩) cs.length c) (.slice A4 b.h q4) (.slice (some ⟨g,0,none⟩) cs.length c)):=by
  intro w1 hk
  have ho:w1.ownsRow K.bs 133 1 (.slice A4 b.h q4) b.h ((st.take b.h).map B):=by
   have ho:=hk.os
   refine⟨by rw[List.length_map,hlen.out];omega,?_⟩
   rcases ho.2 with ⟨h1,h2⟩|⟨g',cap,cur,h0,hbg,hh,h1,h2,h3,h4⟩
   ·injection h1 with h1 h5 h6
    have h0:b.h=0:=by omega
    rw[h0,h1,h6]
    exact .inl ⟨rfl,by simp⟩
   ·injection h0 with h0 h5 h6
    refine .inr ⟨g',cap,cur,by rw[h0,h6],hbg,hh,by omega,h2,h3,?_⟩
    rw[List.map_take,←h4,List.take_take]
    congr 1
    omega
  obtain⟨k1,n1⟩:=hk.set_st (vs':=.slice A4 b.h q4) (st2:=st.take b.h) (w2:=w1) ⟨⟨rfl,rfl,rfl,Nat.le_refl _,fun _ _ _=>rfl⟩,.inl (by cases A4<;>rfl)⟩ (own_cast ho hlen.out.symm rfl)
  obtain⟨k2,n2⟩:=k1.set_cell (g:=g) (i:=i) (j:=4) (b2:={ b with dead:=true }) (u:=.bool true) rfl hb (by omega) rfl rfl
  exact⟨k2,n1.trans n2⟩
 have HF:Hid (killP (psOf cs st)=psOf (cs.set i { b with dead:=true }) (st.take b.h)):=by
  show _=_
  unfold killP setTop
  rw[htop]
  unfold psOf
  simp only[List.length_map]
  rw[hi,Nat.add_sub_cancel,List.map_set]
  rfl
 have e9:(b.h:Int)≤(st.length:Int):=by omega
 have e8:st.length≤q4:=hq4
 clear hq5 htop hv hlen
 unfold StP
 simp only
 rw[HF.out]
 go_enter Tryz.func127,Tryz.ntmps127
 go_wp2_with fail
 refine HT.out.mono ?_;rintro e w1 ⟨rfl,h1⟩
 have hk1:=hide (h.out.quiet h1.out)
 obtain⟨_,_,_,j3,j4⟩:=hk1.out.cells (g:=g) rfl hb
 have j5:=hk1.out.c4
 clear HT
 have z4:=hk1.out.free 4
 have zg:=hk1.out.rowf (g:=g) rfl (i*5+4)
 have hne:¬K.cb=g:=fun e=>hk1.out.ab (by rw[e];rfl)
 have hne2:¬g=K.cb:=fun e=>hne e.symm
 have HFIN:=hide (HS.out w1 hk1.out)
 have HNW:Hid (NW w w1 K.cb (.slice A4 st.length q4) (.slice (some ⟨g,0,none⟩) cs.length c) (.slice A4 st.length q4) (.slice (some ⟨g,0,none⟩) cs.length c)):=NW.of_below h1.out
 clear HS h h1 hb
 go_wp2_with fail
 go_region
 go_end0
 exact⟨.slice A4 b.h q4,.slice (some ⟨g,0,none⟩) cs.length c,cs.set i { b with dead:=true },rfl,HFIN.out.1.quiet (Below.refl _ _).drew,(HNW.out.trans HFIN.out.2).trans (NW.of_below (Below.refl _ _).drew),hide rfl⟩
theorem CK.pop_bl {w:World} {K:KX} {vs:Value} {g i c:Nat} {cs:List CB} {st:List UInt8} (h:CK w K vs (.slice (some ⟨g,0,none⟩) cs.length c) cs st) (hi:cs.length=i+1) :
  CK (w.setCell ⟨K.cb,5,none⟩ (.slice (some ⟨g,0,none⟩) i c)) K vs (.slice (some ⟨g,0,none⟩) i c) (cs.take i) st∧NW w (w.setCell ⟨K.cb,5,none⟩ (.slice (some ⟨g,0,none⟩) i c)) K.cb vs (.slice (some ⟨g,0,none⟩) cs.length c) vs (.slice (some ⟨g,0,none⟩) i c):=by
 have hl:(cs.take i).length=i:=by rw[List.length_take];omega
 have ho:=h.ob
 rw[hi]at ho
 have ho2:=own_short ho
 have hf:(cs.flatMap CB.cs).take (i*5)=(cs.take i).flatMap CB.cs:=by
  conv=>lhs;rw[←List.take_append_drop i cs,List.flatMap_append]
  have h5:((cs.take i).flatMap CB.cs).length=i*5:=by rw[flatMap_len (dec:=CB.cs) (size:=5) (fun _=>rfl),hl]
  rw[List.take_append_of_le_length (by rw[h5];exact Nat.le_refl _),List.take_of_length_le (by rw[h5];exact Nat.le_refl _)]
 rw[hf]at ho2
 exact h.set_bl (vb':=.slice (some ⟨g,0,none⟩) i c) (cs2:=cs.take i) (w2:=w) ⟨⟨rfl,rfl,rfl,Nat.le_refl _,fun _ _ _=>rfl⟩,.inl rfl⟩ (own_cast ho2 hl.symm rfl) (fun b hb=>h.rr b (List.mem_of_mem_take hb))
theorem ResIn.other {w w':World} {K:KX} {vs vb:Value} {r:Sl UInt8} {x:Nat} (hr1:ResIn w K vs vb r) (ho:Only [x] w w') (hr:0<r.l.length→∀ad,r.at_=some ad→ad.block≠x):ResIn w' K vs vb r:=by
 refine⟨⟨⟨hr1.row.r.1,fun h0=>?_⟩,hr1.row.c,hr1.row.m⟩,fun h0 ad ha=>?_,hr1.far⟩
 ·obtain⟨ad,ha,hbk,hc⟩:=hr1.row.r.2 h0
  have hs:=ho.size
  refine⟨ad,ha,by omega,fun j u hu=>?_⟩
  have hc2:w'.cell? (ad.add j)=w.cell? (ad.add j):=World.cell?_of_block (by rw[block_of_add];exact ho.block _ hbk (by simpa using hr h0 ad ha))
  rw[hc2]
  exact hc j u hu
 ·obtain⟨k0,k1,k2,k3⟩:=hr1.apart h0 ad ha
  exact⟨Nat.lt_of_lt_of_le k0 ho.size,k1,k2,k3⟩
theorem CK.other {w w':World} {K:KX} {vs vb:Value} {cs:List CB} {st:List UInt8} {x:Nat} (h:CK w K vs vb cs st) (ho:Only [x] w w') (h1:K.cb≠x) (h2:vs.ownBlock≠some x) (h3:vb.ownBlock≠some x) (hr:∀b∈cs,0<b.res.l.length→∀ad,b.res.at_=some ad→ad.block≠x):CK w' K vs vb cs st:=by
 exact⟨(ho.block K.cb h.size.2 (by simpa using h1)).trans h.blk,h.bc,own_only3 h.os ho (fun g hg hm=>h2 (by rw[hg];simp at hm;rw[hm])),own_only3 h.ob ho (fun g hg hm=>h3 (by rw[hg];simp at hm;rw[hm])),h.as_,h.ab,h.av,fun b hb=>(h.rr b hb).other ho (hr b hb),fun q hq=>Nat.lt_of_lt_of_le (h.fz q hq) ho.size⟩
theorem NW.then_new {w w1 w2:World} {nb x:Nat} {vs vb vs1 vb1:Value} (h:NW w w1 nb vs vb vs1 vb1) (ho:Only [x] w1 w2) (hx:w.heap.size≤x):NW w w2 nb vs vb vs1 vb1:=by
 refine⟨⟨ho.os.trans h.only.os,ho.tape.trans h.only.tape,ho.output.trans h.only.output,Nat.le_trans h.only.size ho.size,fun i hi hn=>?_⟩,h.ls,h.lo⟩
 exact(ho.block i (Nat.lt_of_lt_of_le hi h.only.size) (by simp;omega)).trans (h.only.block i hi hn)
theorem set_five {w:World} {g:Nat} {cs:List Value} {t:TypeId} (hl:cs.length=5) (h:w.heap[g]?=some (.cells cs.toArray t (0,0))) (a b c d e:Value) :
  let W:=((((w.setCell ⟨g,0,none⟩ a).setCell ⟨g,1,none⟩ b).setCell ⟨g,2,none⟩ c).setCell ⟨g,3,none⟩ d).setCell ⟨g,4,none⟩ e
  W.heap[g]?=some (.cells #[a,b,c,d,e] t (0,0))∧Only [g] w W:=by
 obtain⟨x0,x1,x2,x3,x4,rfl⟩:∃x0 x1 x2 x3 x4,cs=[x0,x1,x2,x3,x4]:=by
  match cs,hl with
  | [x0,x1,x2,x3,x4],_=>exact⟨x0,x1,x2,x3,x4,rfl⟩
 have hs:∀(V:World) (i:Nat) (u:Value),Only [g] V (V.setCell ⟨g,i,none⟩ u):=fun V i u=>Only.setCell V (p:=⟨g,i,none⟩) (by simp) u
 exact⟨setCell_blk (setCell_blk (setCell_blk (setCell_blk (setCell_blk h 0 a) 1 b) 2 c) 3 d) 4 e,((((hs w 0 a).trans (hs _ 1 b)).trans (hs _ 2 c)).trans (hs _ 3 d)).trans (hs _ 4 e)⟩
def CloseP (w:World) (K:KX) (vs vb:Value) (r:RR (PS×PB)) (e:Ending) (w':World):Prop:=match r with
 | .ok q=>∃(vs' vb':Value) (cs':List CB) (b:CB),e=.returned (.agg #[.bool b.lp,.bool b.is_,.slice b.res.at_ b.res.l.length b.res.cap,.int .i64 (b.h:Int),.bool b.dead])∧Hid (CK w' K vs' vb' cs' q.1.st)∧Hid (NW w w' K.cb vs vb vs' vb')∧Hid (q.1.bl=cs'.map CB.p)∧Hid (q.2=b.p)∧Hid (ResIn w' K vs' vb' b.res)
 | .bad n=>e=flt n∧Hid (Bad w w' K vs vb)
set_option maxRecDepth 100000 in
set_option maxHeartbeats 3200000 in
theorem cclose_any (K:KX) (vs vb:Value) (cs:List CB) (st:List UInt8) (w:World) (h:Hid (CK w K vs vb cs st)) (hv:Hid (InvP (psOf cs st))) (hs:st.length≤10000000) (hcl:cs.length≤100000) :
  Calls Tryz.prog 150 #[.pointer (some ⟨K.cb,0,none⟩)] w (CloseP w K vs vb (closeP (psOf cs st))):=by
 obtain⟨i,g,c,b,hi,hb,hvb,hbh,htop⟩:=h.out.last hv.out
 subst hvb
 obtain⟨W,hW,hbw,hx,hsz⟩:=box_new w #[.bool false,.bool false,.slice none 0 0,.int .i64 0,.bool false] 146
 obtain⟨xg,hxg⟩:∃xg,w.heap.size=xg:=⟨_,rfl⟩
 have hkW:=hide (h.out.quiet hbw)
 have HT:=hide (ctop_any K vs cs st g cs.length c i W hkW hi (by omega))
 have hrl:b.res.l.length≤1000:=hv.out.res b.p (by show b.p∈cs.map CB.p;exact List.mem_map.2 ⟨b,List.mem_of_getElem? hb,rfl⟩)
 have HP:=hide (fun (V:World) (hV:Below W.heap.size W V)=>cpops_any K vs (.slice (some ⟨g,0,none⟩) cs.length c) cs st b.res V (hide (hkW.out.quiet hV)) (hide ((hkW.out.quiet hV).rr b (List.mem_of_getElem? hb))) hv hs hcl (by omega))
 have HNW:Hid (NW w W K.cb vs (.slice (some ⟨g,0,none⟩) cs.length c) vs (.slice (some ⟨g,0,none⟩) cs.length c)):=NW.of_below hbw
 rw[hxg]at hx hsz
 have HW:=hide hW;have HX:=hide hx;have HXG:=hide hxg;have HBW:=hide hbw
 have HBS:=hide (Nat.le_of_lt h.out.size.1)
 unfold closeP
 rw[htop]
 simp only[show b.p.res=b.res.l from rfl,show b.p.h=b.h from rfl]
 have hpk:=fun s (hq:popsP (psOf cs st) b.res.l=.ok s)=>popsP_ok hq hv.out
 have hxk:xg≠K.cb:=by have:=h.out.size.2;omega
 have hxv:vs.ownBlock≠some xg:=fun e=>by have:=own_lt h.out.os xg e;omega
 have hxb:(Value.slice (some ⟨g,0,none⟩) cs.length c).ownBlock≠some xg:=fun e=>by have:=own_lt h.out.ob xg e;omega
 have hxr:Hid (∀b'∈cs,0<b'.res.l.length→∀ad,b'.res.at_=some ad→ad.block≠xg):=fun b' hb' h0 ad ha=>by have:=((h.out.rr b' hb').apart h0 ad ha).1;omega
 cases hq:popsP (psOf cs st) b.res.l with
 | bad n =>
  simp only[RR.then]
  unfold CloseP
  simp only
  clear hW hx hxg hbw
  go_enter Tryz.func150,Tryz.ntmps150
  go_upto_region 1 with fail
  rw[HW.out,HXG.out]
  go_wp2_with fail
  refine HT.out.mono ?_;rintro e w1 ⟨rfl,h1⟩
  have hk1:=hide (hkW.out.quiet h1.out)
  obtain⟨j0,j1,j2,j3,j4⟩:=hk1.out.cells (g:=g) rfl hb
  obtain⟨W2,hW2,hb2,hx2,hs2⟩:=box_new w1 #[.bool b.lp,.bool b.is_,.slice b.res.at_ b.res.l.length b.res.cap,.int .i64 (b.h:Int),.bool b.dead] 146
  obtain⟨bg,hbg⟩:∃bg,w1.heap.size=bg:=⟨_,rfl⟩
  rw[hbg]at hx2
  have e2:=cell_blk hx2 2
  simp at e2
  have HW2:=hide hW2;have HBG:=hide hbg;have HX2:=hide hx2
  have HB12:=hide (h1.out.trans (hb2.mono h1.out.size))
  have hk2:=hide (hk1.out.quiet hb2)
  have HNW2:=hide (HNW.out.trans (NW.of_below HB12.out))
  have HPP:=hide (HP.out W2 HB12.out)
  have hXb:Hid (W2.heap[xg]?=some (.cells #[.bool false,.bool false,.slice none 0 0,.int .i64 0,.bool false] 146 (0,0))):=(HB12.out.block xg (blk_lt HX.out)).trans HX.out
  have hxlt:Hid (xg<bg):=by show _<_;rw[←HBG.out];exact Nat.lt_of_lt_of_le (blk_lt HX.out) h1.out.size
  have hbk:bg≠K.cb:=by have:=hk1.out.size.2;omega
  have hbv:vs.ownBlock≠some bg:=fun e=>by have:=own_lt hk1.out.os bg e;omega
  have hbb:(Value.slice (some ⟨g,0,none⟩) cs.length c).ownBlock≠some bg:=fun e=>by have:=own_lt hk1.out.ob bg e;omega
  clear HT HP hW2 hbg hx2 hb2 hs2 hk1
  go_upto_region 2 with fail
  rw[HW2.out,HBG.out]
  rw[hq]at HPP
  unfold StQ at HPP
  simp only at HPP
  clear hpk hq
  go_wp2_with fail
  refine HPP.out.mono ?_;rintro e w5 ⟨rfl,h5⟩
  unfold flt
  go_wp2_with fail
  exact⟨rfl,rfl,(NW.bad HNW2.out h5.out)⟩
 | ok s1 =>
  obtain⟨p1,p2,p3⟩:=hpk s1 hq
  have HINV:=hide p1
  have HBL:=hide p2
  have hs1:s1.st.length≤10000000:=Nat.le_trans p3 hs
  simp only[RR.then]
  clear p1 p2
  by_cases hh:s1.st.length=b.h
  ·have hd:((s1.st.length:Int)==(b.h:Int))=true:=by simp;omega
   simp only[hh,beq_self_eq_true,need,if_true]
   unfold CloseP
   simp only
   clear hW hx hxg hbw
   go_enter Tryz.func150,Tryz.ntmps150
   go_upto_region 1 with fail
   rw[HW.out,HXG.out]
   go_wp2_with fail
   refine HT.out.mono ?_;rintro e w1 ⟨rfl,h1⟩
   have hk1:=hide (hkW.out.quiet h1.out)
   obtain⟨j0,j1,j2,j3,j4⟩:=hk1.out.cells (g:=g) rfl hb
   obtain⟨W2,hW2,hb2,hx2,hs2⟩:=box_new w1 #[.bool b.lp,.bool b.is_,.slice b.res.at_ b.res.l.length b.res.cap,.int .i64 (b.h:Int),.bool b.dead] 146
   obtain⟨bg,hbg⟩:∃bg,w1.heap.size=bg:=⟨_,rfl⟩
   rw[hbg]at hx2
   have e2:=cell_blk hx2 2
   simp at e2
   have HW2:=hide hW2;have HBG:=hide hbg;have HX2:=hide hx2
   have HB12:=hide (h1.out.trans (hb2.mono h1.out.size))
   have hk2:=hide (hk1.out.quiet hb2)
   have HNW2:=hide (HNW.out.trans (NW.of_below HB12.out))
   have HPP:=hide (HP.out W2 HB12.out)
   have hXb:Hid (W2.heap[xg]?=some (.cells #[.bool false,.bool false,.slice none 0 0,.int .i64 0,.bool false] 146 (0,0))):=(HB12.out.block xg (blk_lt HX.out)).trans HX.out
   have hxlt:Hid (xg<bg):=by show _<_;rw[←HBG.out];exact Nat.lt_of_lt_of_le (blk_lt HX.out) h1.out.size
   have hbk:bg≠K.cb:=by have:=hk1.out.size.2;omega
   have hbv:vs.ownBlock≠some bg:=fun e=>by have:=own_lt hk1.out.os bg e;omega
   have hbb:(Value.slice (some ⟨g,0,none⟩) cs.length c).ownBlock≠some bg:=fun e=>by have:=own_lt hk1.out.ob bg e;omega
   clear HT HP hW2 hbg hx2 hb2 hs2 hk1
   go_upto_region 2 with fail
   rw[HW2.out,HBG.out]
   rw[hq]at HPP
   unfold StQ at HPP
   simp only at HPP
   clear hpk hq
   go_wp2_with fail
   refine HPP.out.mono ?_;rintro e w5 ⟨vs5,rfl,hk5,hn5,hbl5⟩
   have hX5:Hid (w5.heap[bg]?=some (.cells #[.bool b.lp,.bool b.is_,.slice b.res.at_ b.res.l.length b.res.cap,.int .i64 (b.h:Int),.bool b.dead] 146 (0,0))):=(hn5.out.fresh (blk_lt HX2.out) hbk hbv hbb).1.trans HX2.out
   have hXB5:Hid (w5.heap[xg]?=some (.cells #[.bool false,.bool false,.slice none 0 0,.int .i64 0,.bool false] 146 (0,0))):=(hn5.out.fresh (blk_lt hXb.out) hxk hxv hxb).1.trans hXb.out
   obtain⟨A5,q5,hv5,_,_⟩:=own_form hk5.out.os
   subst hv5
   have C4:=fun k:ExtW w5=>k.cell hk5.out.c4
   have C5:=fun k:ExtW w5=>k.cell hk5.out.c5
   have X3:=fun k:ExtW w5=>k.cell (show w5.cell? ⟨bg,3,none⟩=some (.int .i64 (b.h:Int))from cell_blk hX5.out 3)
   go_wp2_with fail
   refine wp_region_ext_last (l:=[_,_,_,_,_,_,_,_]) (o:=_) (by kernel_rfl) (by kernel_rfl) (by kernel_rfl) (by kernel_rfl) ?_
   repeat (go_big_quiet_step (fail))
   refine wpQuiet_nil ?_
   intro k
   go_wp2_with fail
   refine(must_yes _ _).mono ?_;rintro e w6 ⟨rfl,rfl⟩
   have hk6:=hide (hk5.out.quiet k.b)
   have hX6:=hide ((k.b.block bg (blk_lt hX5.out)).trans hX5.out)
   have hXB6:=hide ((k.b.block xg (blk_lt hXB5.out)).trans hXB5.out)
   have HNW6:=hide ((HNW2.out.trans hn5.out).trans (NW.of_below k.b))
   have y5:=hk6.out.c5
   have z5:=hk6.out.free 5
   have t1:=i64_sub cs.length i hi (by omega)
   have t2:(cs.length:Int)-1=(i:Int):=by omega
   have t3:(i:Int)≤(cs.length:Int):=by omega
   have t4:i≤100000:=by omega
   have t5:cs.length≤c:=by obtain⟨_,_,hv,hq,_⟩:=own_form hk6.out.ob;injection hv with _ _ e3;omega
   have t6:i≤c:=by omega
   obtain⟨hk7,hn7⟩:=hk6.out.pop_bl hi
   have HK7:=hide hk7;have HN7:=hide hn7
   clear C4 C5 X3 hk7 hn7 HPP hk5
   go_wp2_with fail
   go_region
   obtain⟨w7,hw7⟩:∃w7,(k.w.setCell ⟨K.cb,5,none⟩ (.slice (some ⟨g,0,none⟩) i c)).drew=w7:=⟨_,rfl⟩
   have hd7:Below (k.w.setCell ⟨K.cb,5,none⟩ (.slice (some ⟨g,0,none⟩) i c)).heap.size (k.w.setCell ⟨K.cb,5,none⟩ (.slice (some ⟨g,0,none⟩) i c)) w7:=by rw[←hw7];exact(Below.refl _ _).drew
   have hk8:=hide (HK7.out.quiet hd7)
   have hn8:=hide (HN7.out.trans (NW.of_below hd7))
   have hA5:(Value.slice A5 s1.st.length q5).ownBlock≠some bg∧(Value.slice A5 s1.st.length q5).ownBlock≠some xg:=⟨(hn5.out.fresh (blk_lt HX2.out) hbk hbv hbb).2.1,(hn5.out.fresh (blk_lt hXb.out) hxk hxv hxb).2.1⟩
   have hX8:w7.heap[bg]?=_:=(hn8.out.fresh (blk_lt hX6.out) hbk hA5.1 hbb).1.trans hX6.out
   have hXB8:w7.heap[xg]?=_:=(hn8.out.fresh (blk_lt hXB6.out) hxk hA5.2 hxb).1.trans hXB6.out
   have a0:w7.cell? ⟨bg,0,none⟩=some (.bool b.lp):=cell_blk hX8 0
   have a1:w7.cell? ⟨bg,1,none⟩=some (.bool b.is_):=cell_blk hX8 1
   have a2:w7.cell? ⟨bg,2,none⟩=some (.slice b.res.at_ b.res.l.length b.res.cap):=cell_blk hX8 2
   have a3:w7.cell? ⟨bg,3,none⟩=some (.int .i64 (b.h:Int)):=cell_blk hX8 3
   have a4:w7.cell? ⟨bg,4,none⟩=some (.bool b.dead):=cell_blk hX8 4
   have d0:w7.cell? ⟨xg,0,none⟩=some (.bool false):=cell_blk hXB8 0
   have d1:w7.cell? ⟨xg,1,none⟩=some (.bool false):=cell_blk hXB8 1
   have d2:w7.cell? ⟨xg,2,none⟩=some (.slice none 0 0):=cell_blk hXB8 2
   have d3:w7.cell? ⟨xg,3,none⟩=some (.int .i64 0):=cell_blk hXB8 3
   have d4:w7.cell? ⟨xg,4,none⟩=some (.bool false):=cell_blk hXB8 4
   have f0:=frozen_blk hXB8 0
   have f1:=frozen_blk hXB8 1
   have f2:=frozen_blk hXB8 2
   have f3:=frozen_blk hXB8 3
   have f4:=frozen_blk hXB8 4
   obtain⟨hF,hO⟩:=set_five (cs:=[.bool false,.bool false,.slice none 0 0,.int .i64 0,.bool false]) rfl hXB8 (.bool b.lp) (.bool b.is_) (.slice b.res.at_ b.res.l.length b.res.cap) (.int .i64 (b.h:Int)) (.bool b.dead)
   have HF:=hide hF;have HO:=hide hO
   rw[hw7]
   have hwx:w.heap.size≤xg:=by rw[HXG.out];exact Nat.le_refl _
   have HN9:=hide ((HNW6.out.trans hn8.out).then_new hO hwx)
   have HK9:=hide (hk8.out.other hO (fun e=>hxk e.symm) hA5.2 (hn8.out.fresh (blk_lt hXB6.out) hxk hA5.2 hxb).2.2 (fun b' hb'=>hxr.out b' (List.mem_of_mem_take hb')))
   have hRI:ResIn w7 K (.slice A5 s1.st.length q5) (.slice (some ⟨g,0,none⟩) i c) b.res:=(((h.out.rr b (List.mem_of_getElem? hb)).step HNW6.out)).step hn8.out
   have HRI:=hide hRI
   have HR9:=hide (hRI.other hO (fun h0 ad ha=>hxr.out b (List.mem_of_getElem? hb) h0 ad ha))
   clear hF hO hX8 hXB8 hw7 hd7 hRI
   go_wp2_with fail
   refine bodyPost_ret (v:=.agg #[.bool b.lp,.bool b.is_,.slice b.res.at_ b.res.l.length b.res.cap,.int .i64 (b.h:Int),.bool b.dead]) (by simp[results,Tryz.results150,go_sem,d0,d1,d2,d3,d4]) rfl ?_
   refine⟨_,_,cs.take i,b,rfl,HK9.out,HN9.out,?_,hide rfl,HR9.out⟩
   show _=_
   rw[HBL.out]
   show ((cs.map CB.p).take ((cs.map CB.p).length-1))=_
   rw[List.length_map,hi,Nat.add_sub_cancel,List.map_take]
  ·have hd:((s1.st.length:Int)==(b.h:Int))=false:=by simp;omega
   have hd2:(s1.st.length==b.h)=false:=by simpa using hh
   simp only[hd2,need,Bool.false_eq_true,if_false]
   unfold CloseP
   simp only
   clear hW hx hxg hbw
   go_enter Tryz.func150,Tryz.ntmps150
   go_upto_region 1 with fail
   rw[HW.out,HXG.out]
   go_wp2_with fail
   refine HT.out.mono ?_;rintro e w1 ⟨rfl,h1⟩
   have hk1:=hide (hkW.out.quiet h1.out)
   obtain⟨j0,j1,j2,j3,j4⟩:=hk1.out.cells (g:=g) rfl hb
   obtain⟨W2,hW2,hb2,hx2,hs2⟩:=box_new w1 #[.bool b.lp,.bool b.is_,.slice b.res.at_ b.res.l.length b.res.cap,.int .i64 (b.h:Int),.bool b.dead] 146
   obtain⟨bg,hbg⟩:∃bg,w1.heap.size=bg:=⟨_,rfl⟩
   rw[hbg]at hx2
   have e2:=cell_blk hx2 2
   simp at e2
   have HW2:=hide hW2;have HBG:=hide hbg;have HX2:=hide hx2
   have HB12:=hide (h1.out.trans (hb2.mono h1.out.size))
   have hk2:=hide (hk1.out.quiet hb2)
   have HNW2:=hide (HNW.out.trans (NW.of_below HB12.out))
   have HPP:=hide (HP.out W2 HB12.out)
   have hXb:Hid (W2.heap[xg]?=some (.cells #[.bool false,.bool false,.slice none 0 0,.int .i64 0,.bool false] 146 (0,0))):=(HB12.out.block xg (blk_lt HX.out)).trans HX.out
   have hxlt:Hid (xg<bg):=by show _<_;rw[←HBG.out];exact Nat.lt_of_lt_of_le (blk_lt HX.out) h1.out.size
   have hbk:bg≠K.cb:=by have:=hk1.out.size.2;omega
   have hbv:vs.ownBlock≠some bg:=fun e=>by have:=own_lt hk1.out.os bg e;omega
   have hbb:(Value.slice (some ⟨g,0,none⟩) cs.length c).ownBlock≠some bg:=fun e=>by have:=own_lt hk1.out.ob bg e;omega
   clear HT HP hW2 hbg hx2 hb2 hs2 hk1
   go_upto_region 2 with fail
   rw[HW2.out,HBG.out]
   rw[hq]at HPP
   unfold StQ at HPP
   simp only at HPP
   clear hpk hq
   go_wp2_with fail
   refine HPP.out.mono ?_;rintro e w5 ⟨vs5,rfl,hk5,hn5,hbl5⟩
   have hX5:Hid (w5.heap[bg]?=some (.cells #[.bool b.lp,.bool b.is_,.slice b.res.at_ b.res.l.length b.res.cap,.int .i64 (b.h:Int),.bool b.dead] 146 (0,0))):=(hn5.out.fresh (blk_lt HX2.out) hbk hbv hbb).1.trans HX2.out
   have hXB5:Hid (w5.heap[xg]?=some (.cells #[.bool false,.bool false,.slice none 0 0,.int .i64 0,.bool false] 146 (0,0))):=(hn5.out.fresh (blk_lt hXb.out) hxk hxv hxb).1.trans hXb.out
   obtain⟨A5,q5,hv5,_,_⟩:=own_form hk5.out.os
   subst hv5
   have C4:=fun k:ExtW w5=>k.cell hk5.out.c4
   have C5:=fun k:ExtW w5=>k.cell hk5.out.c5
   have X3:=fun k:ExtW w5=>k.cell (show w5.cell? ⟨bg,3,none⟩=some (.int .i64 (b.h:Int))from cell_blk hX5.out 3)
   go_wp2_with fail
   refine wp_region_ext_last (l:=[_,_,_,_,_,_,_,_]) (o:=_) (by kernel_rfl) (by kernel_rfl) (by kernel_rfl) (by kernel_rfl) ?_
   repeat (go_big_quiet_step (fail))
   refine wpQuiet_nil ?_
   intro k
   go_wp2_with fail
   refine(must_no 5 5 rfl _).mono ?_;rintro e w6 ⟨rfl,rfl⟩
   unfold flt
   go_wp2_with fail
   exact⟨rfl,rfl,Bad.of ((HNW2.out.trans hn5.out).trans (NW.of_below k.b))⟩
end Go.Proofs.YtomppgohoplemaaGreat
