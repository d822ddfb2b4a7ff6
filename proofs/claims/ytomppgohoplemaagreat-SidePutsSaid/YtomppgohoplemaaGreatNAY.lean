import Derived.Test.YtomppgohoplemaaGreatNAX
set_option linter.unusedVariables false
namespace Go.Proofs.YtomppgohoplemaaGreat
open Go.RowKit
theorem set_three {w:World} {g:Nat} {x0 x1 x2:Value} {t:TypeId} (h:w.heap[g]?=some (.cells #[x0,x1,x2] t (0,0))) (a b c:Value) :
  let W:=((w.setCell ⟨g,0,none⟩ a).setCell ⟨g,1,none⟩ b).setCell ⟨g,2,none⟩ c
  W.heap[g]?=some (.cells #[a,b,c] t (0,0))∧Only [g] w W:=by
 have hs:∀(V:World) (i:Nat) (u:Value),Only [g] V (V.setCell ⟨g,i,none⟩ u):=fun V i u=>Only.setCell V (p:=⟨g,i,none⟩) (by simp) u
 exact⟨setCell_blk (setCell_blk (setCell_blk h 0 a) 1 b) 2 c,((hs w 0 a).trans (hs _ 1 b)).trans (hs _ 2 c)⟩
theorem below_new {w w1 w2:World} {x:Nat} (h:Below w.heap.size w w1) (ho:Only [x] w1 w2) (hx:w.heap.size≤x):Below w.heap.size w w2 :=
 ⟨ho.os.trans h.os,ho.tape.trans h.tape,ho.output.trans h.output,Nat.le_trans h.size ho.size,fun i hi=>(ho.block i (Nat.lt_of_lt_of_le hi h.size) (by simp;omega)).trans (h.block i hi)⟩
def glV (x:MGl):Value:=.agg #[.int .u8 (x.t.toNat:Int),.bool x.mu,.int .u64 (x.v:Int)]
def lmV (x:MLm):Value:=.agg #[.int .i64 x.mn,.int .i64 x.mx,.bool x.wide]
section
variable {w0:World} {K:KX} {g:Nat} {m:MoL} {loc sp sr:Sl UInt8}
set_option maxRecDepth 100000 in
set_option maxHeartbeats 1600000 in
theorem cglobal_any (vs vb:Value) (cs:List CB) (st:List UInt8) (n:Nat) (w:World) (p:List UInt8) (h:Hid (CK w K vs vb cs st)) (he:Hid (KE w0 K g m loc sp sr)) (hb:Hid (Below w0.heap.size w0 w)) (hl:m.gls.l.length≤100000) (hn:n<18446744073709551616) :
  Calls Tryz.prog 137 #[.pointer (some ⟨K.cb,0,none⟩),.int .u64 (n:Int)] w (ValP w (globalP ⟨m.g,loc.l,p,sr.l⟩ n) glV):=by
 obtain⟨W,hW,hbw,hx,hsz⟩:=box_new w #[.int .u8 0,.bool false,.int .u64 0] 182
 obtain⟨xg,hxg⟩:∃xg,w.heap.size=xg:=⟨_,rfl⟩
 rw[hxg]at hx
 have hkW:=hide (h.out.quiet hbw)
 have hbW:=hide (hb.out.trans (hbw.mono hb.out.size))
 have HBW:=hide hbw
 obtain⟨c0,_,_,_⟩:=hkW.out.envc he.out
 have hM:=he.out.mo.below hbW.out
 obtain⟨_,_,_,_,_,c5,_,_,_,_⟩:=hM.cells
 have HX:=hide hx
 have HW:=hide hW;have HXG:=hide hxg
 unfold globalP
 simp only
 rw[show m.g.gls=m.gls.l from rfl]
 clear hW hx hxg hbw hsz
 by_cases hlt:n<m.gls.l.length
 ·have hd:decide (n<m.gls.l.length)=true:=decide_eq_true hlt
  obtain⟨x,hxi⟩:∃x,m.gls.l[n]?=some x:=⟨_,List.getElem?_eq_getElem hlt⟩
  rw[decide_eq_true hlt,getD_some hxi]
  simp only[need,if_true]
  unfold ValP glV
  simp only
  obtain⟨ad,ha,_,k0,kj⟩:=hM.in_.gls.at_ (fun _=>rfl) hxi
  have q0:W.cell? (ad.add (n*3))=some (.int .u8 (x.t.toNat:Int)):=k0 _ rfl (by omega)
  have q1:W.cell? ⟨(ad.add (n*3)).block,(ad.add (n*3)).off+1,none⟩=some (.bool x.mu):=kj 1 (by omega) (by omega) _ rfl
  have q2:W.cell? ⟨(ad.add (n*3)).block,(ad.add (n*3)).off+2,none⟩=some (.int .u64 (x.v:Int)):=kj 2 (by omega) (by omega) _ rfl
  rw[ha]at c5
  have d0:W.cell? ⟨xg,0,none⟩=some (.int .u8 0):=cell_blk HX.out 0
  have d1:W.cell? ⟨xg,1,none⟩=some (.bool false):=cell_blk HX.out 1
  have d2:W.cell? ⟨xg,2,none⟩=some (.int .u64 0):=cell_blk HX.out 2
  have f0:=frozen_blk HX.out 0
  have f1:=frozen_blk HX.out 1
  have f2:=frozen_blk HX.out 2
  obtain⟨_,hO⟩:=set_three HX.out (.int .u8 (x.t.toNat:Int)) (.bool x.mu) (.int .u64 (x.v:Int))
  have HF:=hide (below_new HBW.out hO (by rw[HXG.out];exact Nat.le_refl _))
  clear k0 kj hO hxi ha hM
  go_enter Tryz.func137,Tryz.ntmps137
  go_upto_region 1 with fail
  rw[HW.out,HXG.out]
  go_wp2_with fail
  refine(must_yes _ _).mono ?_;rintro e w1 ⟨rfl,rfl⟩
  go_wp2_with fail
  refine bodyPost_ret (v:=.agg #[.int .u8 (x.t.toNat:Int),.bool x.mu,.int .u64 (x.v:Int)]) (by simp[results,Tryz.results137,go_sem,d0,d1,d2]) rfl ?_
  exact⟨rfl,HF.out⟩
 ·have hd:decide (n<m.gls.l.length)=false:=decide_eq_false hlt
  rw[decide_eq_false hlt]
  simp only[need,Bool.false_eq_true,if_false]
  unfold ValP
  simp only
  clear hM
  go_enter Tryz.func137,Tryz.ntmps137
  go_upto_region 1 with fail
  rw[HW.out]
  go_wp2_with fail
  refine(must_no 2 2 rfl _).mono ?_;rintro e w1 ⟨rfl,rfl⟩
  unfold flt
  go_wp2_with fail
  exact⟨rfl,rfl,HBW.out⟩
set_option maxRecDepth 100000 in
set_option maxHeartbeats 1600000 in
theorem cmemory_any (vs vb:Value) (cs:List CB) (st:List UInt8) (n:Nat) (w:World) (p:List UInt8) (h:Hid (CK w K vs vb cs st)) (he:Hid (KE w0 K g m loc sp sr)) (hb:Hid (Below w0.heap.size w0 w)) (hl:m.mems.l.length≤100000) (hn:n<18446744073709551616) :
  Calls Tryz.prog 139 #[.pointer (some ⟨K.cb,0,none⟩),.int .u64 (n:Int)] w (ValP w (memP ⟨m.g,loc.l,p,sr.l⟩ n) lmV):=by
 obtain⟨W,hW,hbw,hx,hsz⟩:=box_new w #[.int .i64 0,.int .i64 0,.bool false] 179
 obtain⟨xg,hxg⟩:∃xg,w.heap.size=xg:=⟨_,rfl⟩
 rw[hxg]at hx
 have hkW:=hide (h.out.quiet hbw)
 have hbW:=hide (hb.out.trans (hbw.mono hb.out.size))
 have HBW:=hide hbw
 obtain⟨c0,_,_,_⟩:=hkW.out.envc he.out
 have hM:=he.out.mo.below hbW.out
 obtain⟨_,_,_,_,c4,_,_,_,_,_⟩:=hM.cells
 have HX:=hide hx
 have HW:=hide hW;have HXG:=hide hxg
 unfold memP
 simp only
 rw[show m.g.mems=m.mems.l from rfl]
 clear hW hx hxg hbw hsz
 by_cases hlt:n<m.mems.l.length
 ·have hd:decide (n<m.mems.l.length)=true:=decide_eq_true hlt
  obtain⟨x,hxi⟩:∃x,m.mems.l[n]?=some x:=⟨_,List.getElem?_eq_getElem hlt⟩
  rw[decide_eq_true hlt,getD_some hxi]
  simp only[need,if_true]
  unfold ValP lmV
  simp only
  obtain⟨ad,ha,_,k0,kj⟩:=hM.in_.mems.at_ (fun _=>rfl) hxi
  have q0:W.cell? (ad.add (n*3))=some (.int .i64 x.mn):=k0 _ rfl (by omega)
  have q1:W.cell? ⟨(ad.add (n*3)).block,(ad.add (n*3)).off+1,none⟩=some (.int .i64 x.mx):=kj 1 (by omega) (by omega) _ rfl
  have q2:W.cell? ⟨(ad.add (n*3)).block,(ad.add (n*3)).off+2,none⟩=some (.bool x.wide):=kj 2 (by omega) (by omega) _ rfl
  rw[ha]at c4
  have d0:W.cell? ⟨xg,0,none⟩=some (.int .i64 0):=cell_blk HX.out 0
  have d1:W.cell? ⟨xg,1,none⟩=some (.int .i64 0):=cell_blk HX.out 1
  have d2:W.cell? ⟨xg,2,none⟩=some (.bool false):=cell_blk HX.out 2
  have f0:=frozen_blk HX.out 0
  have f1:=frozen_blk HX.out 1
  have f2:=frozen_blk HX.out 2
  obtain⟨_,hO⟩:=set_three HX.out (.int .i64 x.mn) (.int .i64 x.mx) (.bool x.wide)
  have HF:=hide (below_new HBW.out hO (by rw[HXG.out];exact Nat.le_refl _))
  clear k0 kj hO hxi ha hM
  go_enter Tryz.func139,Tryz.ntmps139
  go_upto_region 1 with fail
  rw[HW.out,HXG.out]
  go_wp2_with fail
  refine(must_yes _ _).mono ?_;rintro e w1 ⟨rfl,rfl⟩
  go_wp2_with fail
  refine bodyPost_ret (v:=.agg #[.int .i64 x.mn,.int .i64 x.mx,.bool x.wide]) (by simp[results,Tryz.results139,go_sem,d0,d1,d2]) rfl ?_
  exact⟨rfl,HF.out⟩
 ·have hd:decide (n<m.mems.l.length)=false:=decide_eq_false hlt
  rw[decide_eq_false hlt]
  simp only[need,Bool.false_eq_true,if_false]
  unfold ValP
  simp only
  clear hM
  go_enter Tryz.func139,Tryz.ntmps139
  go_upto_region 1 with fail
  rw[HW.out]
  go_wp2_with fail
  refine(must_no 2 2 rfl _).mono ?_;rintro e w1 ⟨rfl,rfl⟩
  unfold flt
  go_wp2_with fail
  exact⟨rfl,rfl,HBW.out⟩
end
theorem caddr_any (l:MLm) (w:World):Calls Tryz.prog 141 #[lmV l] w fun e w'=>e=.returned (.int .u8 ((adrT l).toNat:Int))∧Hid (Below w.heap.size w w'):=by
 unfold lmV adrT
 cases l.wide <;>
 ·go_enter Tryz.func141,Tryz.ntmps141
  go_wp2_with fail
  go_ret
  exact⟨rfl,(Below.refl _ _).alloc (Nat.le_refl _) _⟩
set_option maxRecDepth 100000 in
set_option maxHeartbeats 1600000 in
theorem capply_any (K:KX) (vs vb:Value) (cs:List CB) (st:List UInt8) (p r:Sl UInt8) (w:World) (h:Hid (CK w K vs vb cs st)) (hp:Hid (ResIn w K vs vb p)) (hr:Hid (ResIn w K vs vb r)) (hv:Hid (InvP (psOf cs st))) (hs:st.length≤10000000) (hcl:cs.length≤100000) (hpl:p.l.length≤100000) (hrl:r.l.length≤100000) :
  Calls Tryz.prog 112 #[.pointer (some ⟨K.cb,0,none⟩),.agg #[.slice p.at_ p.l.length p.cap,.slice r.at_ r.l.length r.cap]] w (StQ w K vs vb cs (applyP (psOf cs st) p.l r.l) (.tuple #[])):=by
 obtain⟨W,hW,hbw,hx,hsz⟩:=box_new w #[.slice p.at_ p.l.length p.cap,.slice r.at_ r.l.length r.cap] 87
 obtain⟨xg,hxg⟩:∃xg,w.heap.size=xg:=⟨_,rfl⟩
 rw[hxg]at hx
 have hkW:=hide (h.out.quiet hbw)
 have hnW:Hid (NW w W K.cb vs vb vs vb):=NW.of_below hbw
 have HP:=hide (cpops_any K vs vb cs st p W hkW (hide (hp.out.step hnW.out)) hv hs hcl hpl)
 have d0:W.cell? ⟨xg,0,none⟩=some (.slice p.at_ p.l.length p.cap):=cell_blk hx 0
 have HX:=hide hx
 have HW:=hide hW;have HXG:=hide hxg
 have hxk:xg≠K.cb:=by have:=h.out.size.2;omega
 have hxv:vs.ownBlock≠some xg:=fun e=>by have:=own_lt h.out.os xg e;omega
 have hxb:vb.ownBlock≠some xg:=fun e=>by have:=own_lt h.out.ob xg e;omega
 unfold applyP
 have hpok:=fun s (hq:popsP (psOf cs st) p.l=.ok s)=>popsP_ok hq hv.out
 clear hW hx hxg hbw hsz
 cases hq:popsP (psOf cs st) p.l with
 | bad n =>
  rw[hq]at HP
  unfold StQ at HP
  simp only at HP
  simp only[RR.then]
  unfold StQ
  simp only
  clear hq hpok
  go_enter Tryz.func112,Tryz.ntmps112
  go_upto_region 1 with fail
  rw[HW.out,HXG.out]
  go_wp2_with fail
  refine HP.out.mono ?_;rintro e w5 ⟨rfl,h5⟩
  unfold flt
  go_wp2_with fail
  exact⟨rfl,rfl,(NW.bad hnW.out h5.out)⟩
 | ok s1 =>
  obtain⟨i1,i2,i3⟩:=hpok s1 hq
  rw[hq]at HP
  unfold StQ at HP
  simp only at HP
  simp only[RR.then]
  unfold StQ
  simp only
  have I3:s1.st.length≤10000000:=Nat.le_trans i3 hs
  clear hq hpok i1 i2 i3
  go_enter Tryz.func112,Tryz.ntmps112
  go_upto_region 1 with fail
  rw[HW.out,HXG.out]
  go_wp2_with fail
  refine HP.out.mono ?_;rintro e w5 ⟨vs5,rfl,hk5,hn5,hbl5⟩
  have hx5:=(hn5.out.fresh (blk_lt HX.out) hxk hxv hxb).1.trans HX.out
  have d1:w5.cell? ⟨xg,1,none⟩=some (.slice r.at_ r.l.length r.cap):=cell_blk hx5 1
  have hn5':=hide (hnW.out.trans hn5.out)
  have HPU:=hide (cpush_any K vs5 vb cs s1.st r.at_ r.cap r.l.length r.l w5 hk5 (hide (hr.out.step hn5'.out).row.bytes) rfl I3 hrl)
  clear HP d0 hx5
  go_wp2_with fail
  refine HPU.out.mono ?_;rintro e w6 ⟨vs6,rfl,hk6,hn6⟩
  go_wp2_with fail
  go_end0
  exact⟨vs6,rfl,hk6,hn5'.out.trans hn6.out,hbl5⟩
set_option maxHeartbeats 800000 in
theorem ceq_any (A1 A2:Option Addr) (c1 c2:Nat) (ps qs:List UInt8) (w:World) (r1:Hid (Reads w w.heap.size 1 A1 ps.length (ps.map B))) (r2:Hid (Reads w w.heap.size 1 A2 qs.length (qs.map B))) (h1:ps.length≤100000) (h2:qs.length≤100000) :
  Calls Tryz.prog 151 #[.slice A1 ps.length c1,.slice A2 qs.length c2] w fun e w'=>e=.returned (.bool (decide (ps=qs)))∧Hid (Below w.heap.size w w'):=by
 by_cases hl:ps.length=qs.length
 ·have HL:=hide hl
  obtain⟨n,hn⟩:∃n,qs.length=n:=⟨_,rfl⟩
  rw[hl]at r1 h1 ⊢
  rw[hn]at r1 r2 h1 h2 ⊢
  have HN:=hide hn
  clear hl hn
  go_enter Tryz.func151,Tryz.ntmps151
  go_wp2_with fail
  have HPE:Hid (ps.length=n):=by show _=_;rw[HL.out,HN.out]
  go_loopw [4,5,13] (fun r _ i w1=>∃k:Nat,r=.bool false∧i=.int .i64 k∧k≤n∧Hid (ps.take k=qs.take k)∧Hid (Below w.heap.size w w1)) (fun _ _ i _=>n-(intOf i).toNat)
  case atStart=>exact⟨0,rfl,rfl,by omega,by show _=_;simp,Below.refl _ _⟩
  case round =>
   obtain⟨k,rfl,rfl,hk,hin,hbw⟩:=hrel
   by_cases hlt:k<n
   ·have hr1:Reads wr w.heap.size 1 A1 ps.length (ps.map B):=by rw[HPE.out];exact r1.out.below hbw.out
    have hr2:Reads wr w.heap.size 1 A2 qs.length (qs.map B):=by rw[HN.out];exact r2.out.below hbw.out
    obtain⟨a1,x,rfl,hx,hcx,hx0,hx1⟩:=hr1.byte (k:=k) (by rw[HPE.out];exact hlt)
    obtain⟨a2,y,rfl,hy,hcy,hy0,hy1⟩:=hr2.byte (k:=k) (by rw[HN.out];exact hlt)
    have hki:(k:Int)<(n:Int):=by omega
    have hk0:(0:Int)≤(k:Int):=by omega
    clear hr1 hr2
    by_cases hxy:x=y
    ·have hst:Hid (ps.take (k+1)=qs.take (k+1)):=by
      show _=_
      rw[List.take_add_one,List.take_add_one,hx.out,hy.out,hin.out,hxy]
     have e1:((x.toNat:Int) != (y.toNat:Int))=false:=by subst hxy;simp
     clear hxy hin
     go_wp2_with fail
     go_quiet (fail)
     go_wp2_with fail
     go_roundw
     case rel=>exact⟨k+1,rfl,by go_num,by omega,hst,below_dr hbw.out _⟩
     case measure=>simp[intOf]<;>omega
    ·have hne:decide (ps=qs)=false:=decide_eq_false (fun h=>by
      subst h
      have:=hx.out.symm.trans hy.out
      injection this with this
      exact hxy this)
     have HNE:=hide hne
     have e1:((x.toNat:Int) != (y.toNat:Int))=true:=by
      simp
      intro h
      exact hxy (UInt8.toNat_inj.1 (by omega))
     clear hxy hin hne
     go_wp2_with fail
     go_quiet (fail)
     go_wp2_with fail
     go_ret
     exact⟨by rw[HNE.out];rfl,below_dr hbw.out _⟩
   ·have hkk:k=n:=by omega
    subst hkk
    have heq:decide (ps=qs)=true:=decide_eq_true (by
     have h:=hin.out
     rw[List.take_of_length_le (by rw[HPE.out];exact Nat.le_refl _),List.take_of_length_le (by rw[HN.out];exact Nat.le_refl _)]at h
     exact h)
    have HEQ:=hide heq
    clear hlt hin heq
    go_wp2_with fail
    go_ret
    exact⟨by rw[HEQ.out];rfl,hbw.out⟩
 ·have hne:decide (ps=qs)=false:=decide_eq_false (fun h=>hl (by rw[h]))
  rw[hne]
  have e1:((ps.length:Int) != (qs.length:Int))=true:=by simp;omega
  clear hl hne
  go_enter Tryz.func151,Tryz.ntmps151
  go_wp2_with fail
  go_ret
  exact⟨rfl,Below.refl _ _⟩
theorem inv_res {cs:List CB} {st:List UInt8} {s:Sl UInt8} {n:Nat} (hv:InvP (psOf cs st)) (h:labelP (psOf cs st) n=.ok s.l):s.l.length≤1000:=by
 unfold labelP at h
 obtain⟨h1,h2⟩:=need_ok h
 simp only[decide_eq_true_eq]at h1
 injection h2 with h2
 rw[←h2]
 split
 ·simp
 ·have hlt:(psOf cs st).bl.length-1-n<(psOf cs st).bl.length:=by omega
  exact hv.res _ (List.mem_of_getElem? (getD_lt hlt))
theorem StP.bad {w w':World} {K:KX} {vs vb v:Value} {r:RR PS} {n:Nat} {e:Ending} (hr:r=.bad n) (he:e=flt n) (hb:Bad w w' K vs vb):StP w K vs vb r v e w':=by
 subst hr;exact⟨he,hb⟩
theorem StP.ok {w w':World} {K:KX} {vs vb v vs' vb':Value} {r:RR PS} {s:PS} {cs':List CB} {e:Ending} (hr:r=.ok s) (he:e=.returned v) (hk:CK w' K vs' vb' cs' s.st) (hn:NW w w' K.cb vs vb vs' vb') (hb:s.bl=cs'.map CB.p):StP w K vs vb r v e w':=by
 subst hr;exact⟨vs',vb',cs',he,hk,hn,hb⟩
set_option maxRecDepth 100000 in
set_option maxHeartbeats 6400000 in
theorem cbranch_any (K:KX) (vs vb:Value) (cs:List CB) (st:List UInt8) (x:XL) (w w0:World) (h:Hid (CK w K vs vb cs st)) (hv:Hid (InvP (psOf cs st))) (hs:st.length≤10000000) (hcl:cs.length≤100000) (hxi:Hid x.x.In) (hlab:Hid (Row w0 1 uD x.l)) (hb0:Hid (Below w0.heap.size w0 w)) (hbs:w0.heap.size≤K.bs) (hll:x.l.l.length≤1000) :
  Calls Tryz.prog 135 #[.pointer (some ⟨K.cb,0,none⟩),insV2 x] w (StP w K vs vb (branchP (psOf cs st) x.x) (.tuple #[])):=by
 obtain⟨W,hW,hbw,hx,hsz⟩:=ins_box w x
 obtain⟨ig,hig⟩:∃ig,w.heap.size=ig:=⟨_,rfl⟩
 rw[hig]at hx
 have hkW:=hide (h.out.quiet hbw)
 have hnW:Hid (NW w W K.cb vs vb vs vb):=NW.of_below hbw
 have d1:W.cell? ⟨ig,1,none⟩=some (.int .u64 (x.a:Int)):=cell_blk hx 1
 have hbW0:=hide (hb0.out.trans (hbw.mono hb0.out.size))
 have HX:=hide hx;have HW:=hide hW;have HIG:=hide hig
 have hxk:ig≠K.cb:=by have:=h.out.size.2;omega
 have hxv:vs.ownBlock≠some ig:=fun e=>by have:=own_lt h.out.os ig e;omega
 have hxb:vb.ownBlock≠some ig:=fun e=>by have:=own_lt h.out.ob ig e;omega
 have ha64:=hxi.out.a
 have hBS:=hide (Nat.le_of_lt h.out.size.1)
 have HL:=hide (fun (V:World) (hV:Below W.heap.size W V) (n:Nat) (hn:n<18446744073709551616)=>clabel_any K vs vb cs st n V (hide (hkW.out.quiet hV)) hcl hn)
 obtain⟨R,hR⟩:∃R,branchP (psOf cs st) x.x=R:=⟨_,rfl⟩
 have HR:Hid ((labelP (psOf cs st) x.a).then (fun want=>(labelsIn (psOf cs st) x.l.l).then fun _=>(labelsEq (psOf cs st) want x.l.l).then fun _=>(pop1 (psOf cs st) 127).then fun s1=>(popsP s1 want).then fun s2=>.ok (killP s2))=R):=hR
 rw[hR]
 have HLA:=hide (HL.out W (Below.refl _ _) x.a ha64)
 clear hW hx hig hbw hsz hR
 unfold insV2
 cases hla:labelP (psOf cs st) x.a with
 | bad n =>
  have hend:Hid (R=.bad n):=by show _=_;rw[←HR.out,hla];rfl
  rw[hla]at HLA
  unfold LabP at HLA
  simp only at HLA
  clear HR hla
  go_enter Tryz.func135,Tryz.ntmps135
  go_upto_region 1 with fail
  rw[HW.out,HIG.out]
  go_wp2_with fail
  refine HLA.out.mono ?_;rintro e w5 ⟨rfl,h5⟩
  unfold flt
  go_wp2_with fail
  refine⟨rfl,StP.bad hend.out rfl (Bad.of (hnW.out.trans (NW.of_below h5.out)))⟩
 | ok want =>
  have HR2:Hid ((labelsIn (psOf cs st) x.l.l).then (fun _=>(labelsEq (psOf cs st) want x.l.l).then fun _=>(pop1 (psOf cs st) 127).then fun s1=>(popsP s1 want).then fun s2=>.ok (killP s2))=R):=by show _=_;rw[←HR.out,hla];rfl
  have HLAE:=hide hla
  rw[hla]at HLA
  unfold LabP at HLA
  simp only at HLA
  clear HR hla
  go_enter Tryz.func135,Tryz.ntmps135
  go_upto_region 1 with fail
  rw[HW.out,HIG.out]
  go_wp2_with fail
  refine HLA.out.mono ?_;rintro e w1 ⟨sw,rfl,hsw,hrw,h1⟩
  have HSW:=hide hsw
  have hswl:sw.l.length≤1000:=inv_res hv.out (by rw[HSW.out];exact HLAE.out)
  have hx1:Hid (w1.heap[ig]?=some (.cells #[.int .i64 x.code,.int .u64 (x.a:Int),.int .u64 (x.b:Int),.int .i64 x.al,.slice x.l.at_ x.l.l.length x.l.cap] 131 (0,0))):=(h1.out.block ig (blk_lt HX.out)).trans HX.out
  have d4:w1.cell? ⟨ig,4,none⟩=some (.slice x.l.at_ x.l.l.length x.l.cap):=cell_blk hx1.out 4
  clear HLA d1 hsw
  go_wp2_with fail
  go_loopw [6,16] (fun v i w2=>∃k:Nat,i=.int .i64 (k:Int)∧k≤x.l.l.length∧Hid (Below w1.heap.size w1 w2)∧Hid ((labelsIn (psOf cs st) (x.l.l.drop k)).then (fun _=>(labelsEq (psOf cs st) want x.l.l).then fun _=>(pop1 (psOf cs st) 127).then fun s1=>(popsP s1 want).then fun s2=>.ok (killP s2))=R)) (fun _ i _=>x.l.l.length-(intOf i).toNat)
  case atStart=>exact⟨0,rfl,by omega,Below.refl _ _,HR2⟩
  case round =>
   obtain⟨k,rfl,hk,hb2,hrr⟩:=hrel
   have hbr1:=h1.out.trans (hb2.out.mono h1.out.size)
   by_cases hlt:k<x.l.l.length
   ·obtain⟨n,hn⟩:∃n,x.l.l[k]?=some n:=⟨_,List.getElem?_eq_getElem hlt⟩
    have hn64:=hxi.out.l n (List.mem_of_getElem? hn)
    have hrow:=hlab.out.below (hbW0.out.trans (hbr1.mono hbW0.out.size))
    obtain⟨ad,ha,_,k0,_⟩:=hrow.at_ (fun _=>rfl) hn
    have q0:=k0 _ rfl (by omega)
    rw[Nat.mul_one]at q0
    unfold U at q0
    have hdrop:x.l.l.drop k=n::x.l.l.drop (k+1):=drop_cons hn
    rw[hdrop]at hrr
    have HLN:=hide (HL.out wr hbr1 n hn64)
    rw[ha]
    clear k0 ha hn hrow hdrop
    cases hln:labelP (psOf cs st) n with
    | bad e =>
     have hend:Hid (R=.bad e):=by show _=_;rw[←hrr.out];simp only[labelsIn];rw[hln];rfl
     rw[hln]at HLN
     unfold LabP at HLN
     simp only at HLN
     have hfin:=hide (hnW.out.trans (NW.of_below hbr1))
     have hbsr:K.bs≤wr.heap.size:=Nat.le_trans (Nat.le_of_lt hkW.out.size.1) hbr1.size
     clear hrr hln hbr1
     go_wp2_with fail
     refine HLN.out.mono ?_;rintro e5 w5 ⟨rfl,h5⟩
     unfold flt
     go_wp2_with fail
     exact⟨rfl,StP.bad hend.out rfl (Bad.of (hfin.out.trans (NW.of_below h5.out)))⟩
    | ok l =>
     have hnext:Hid ((labelsIn (psOf cs st) (x.l.l.drop (k+1))).then (fun _=>(labelsEq (psOf cs st) want x.l.l).then fun _=>(pop1 (psOf cs st) 127).then fun s1=>(popsP s1 want).then fun s2=>.ok (killP s2))=R):=by
      show _=_
      rw[←hrr.out]
      conv=>rhs;simp only[labelsIn];rw[hln]
      rfl
     rw[hln]at HLN
     unfold LabP at HLN
     simp only at HLN
     clear hrr hln hbr1
     go_wp2_with fail
     refine HLN.out.mono ?_;rintro e5 w5 ⟨s5,rfl,_,_,h5⟩
     have HB5:Hid (Below w1.heap.size w1 w5):=hb2.out.trans (h5.out.mono hb2.out.size)
     clear HLN h5 q0
     go_wp2_with fail
     go_roundw
     case rel=>exact⟨k+1,by go_num,by omega,HB5,hnext⟩
     case measure=>simp[intOf]<;>omega
   ·have hrr2:Hid ((labelsEq (psOf cs st) want x.l.l).then (fun _=>(pop1 (psOf cs st) 127).then fun s1=>(popsP s1 want).then fun s2=>.ok (killP s2))=R):=by
     have:=hrr.out
     rw[List.drop_of_length_le (by omega)]at this
     exact this
    have hx2:Hid (wr.heap[ig]?=some (.cells #[.int .i64 x.code,.int .u64 (x.a:Int),.int .u64 (x.b:Int),.int .i64 x.al,.slice x.l.at_ x.l.l.length x.l.cap] 131 (0,0))):=(hb2.out.block ig (blk_lt hx1.out)).trans hx1.out
    have d4:wr.cell? ⟨ig,4,none⟩=some (.slice x.l.at_ x.l.l.length x.l.cap):=cell_blk hx2.out 4
    have hrw2:=hide (hrw.out.step (NW.of_below hb2.out))
    have HBR1:=hide hbr1
    have hge:decide (k<x.l.l.length)=false:=decide_eq_false hlt
    clear hrr hlt hrw hx1 hbr1
    rename World=>w2
    go_wp2_with fail
    go_loopw [8,27] (fun v i w3=>∃k:Nat,i=.int .i64 (k:Int)∧k≤x.l.l.length∧Hid (Below w2.heap.size w2 w3)∧Hid ((labelsEq (psOf cs st) want (x.l.l.drop k)).then (fun _=>(pop1 (psOf cs st) 127).then fun s1=>(popsP s1 want).then fun s2=>.ok (killP s2))=R)) (fun _ i _=>x.l.l.length-(intOf i).toNat)
    case atStart=>exact⟨0,rfl,by omega,Below.refl _ _,hrr2⟩
    case round =>
     obtain⟨k,rfl,hk,hb3,hrr⟩:=hrel
     have hbr2:=HBR1.out.trans (hb3.out.mono HBR1.out.size)
     have hfin:=hide (hnW.out.trans (NW.of_below hbr2))
     have hbsr:K.bs≤wr.heap.size:=Nat.le_trans (Nat.le_of_lt hkW.out.size.1) hbr2.size
     have hrw3:=hide (hrw2.out.step (NW.of_below hb3.out))
     by_cases hlt:k<x.l.l.length
     ·obtain⟨n,hn⟩:∃n,x.l.l[k]?=some n:=⟨_,List.getElem?_eq_getElem hlt⟩
      have hn64:=hxi.out.l n (List.mem_of_getElem? hn)
      have hrow:=hlab.out.below (hbW0.out.trans (hbr2.mono hbW0.out.size))
      obtain⟨ad,ha,_,k0,_⟩:=hrow.at_ (fun _=>rfl) hn
      have q0:=k0 _ rfl (by omega)
      rw[Nat.mul_one]at q0
      unfold U at q0
      have hdrop:x.l.l.drop k=n::x.l.l.drop (k+1):=drop_cons hn
      rw[hdrop]at hrr
      have HLN:=hide (HL.out wr hbr2 n hn64)
      rw[ha]
      clear k0 ha hn hrow hdrop
      cases hln:labelP (psOf cs st) n with
      | bad e =>
       have hend:Hid (R=.bad e):=by show _=_;rw[←hrr.out];simp only[labelsEq];rw[hln];rfl
       rw[hln]at HLN
       unfold LabP at HLN
       simp only at HLN
       clear hrr hln hbr2
       go_wp2_with fail
       refine HLN.out.mono ?_;rintro e5 w5 ⟨rfl,h5⟩
       unfold flt
       go_wp2_with fail
       exact⟨rfl,StP.bad hend.out rfl (Bad.of (hfin.out.trans (NW.of_below h5.out)))⟩
      | ok l =>
       have hstep:Hid ((need (l==want) 5 (labelsEq (psOf cs st) want (x.l.l.drop (k+1)))).then (fun _=>(pop1 (psOf cs st) 127).then fun s1=>(popsP s1 want).then fun s2=>.ok (killP s2))=R):=by
        show _=_
        rw[←hrr.out]
        conv=>rhs;simp only[labelsEq];rw[hln]
        rfl
       have HLN2:=hide hln
       rw[hln]at HLN
       unfold LabP at HLN
       simp only at HLN
       clear hrr hln hbr2
       go_wp2_with fail
       refine HLN.out.mono ?_;rintro e5 w5 ⟨s5,rfl,hs5,hr5,h5⟩
       have hs5l:s5.l.length≤1000:=inv_res hv.out (by rw[hs5];exact HLN2.out)
       have HEQ:=hide (ceq_any s5.at_ sw.at_ s5.cap sw.cap s5.l sw.l w5 hr5.out.row.bytes (hide (hrw3.out.step (NW.of_below h5.out)).row.bytes) (by omega) (by omega))
       have hdd:decide (s5.l=sw.l)=(l==want):=by rw[hs5,HSW.out,Bool.eq_iff_iff];simp
       rw[hdd]at HEQ
       have HB5:Hid (Below w2.heap.size w2 w5):=hb3.out.trans (h5.out.mono hb3.out.size)
       have HF5:=hide (hfin.out.trans (NW.of_below h5.out))
       have hbs5:=Nat.le_trans hbsr h5.out.size
       clear HLN h5 q0 hdd hs5 hfin
       cases hlw:(l==want) with
       | true =>
        rw[hlw]at hstep HEQ
        have hnext:Hid ((labelsEq (psOf cs st) want (x.l.l.drop (k+1))).then (fun _=>(pop1 (psOf cs st) 127).then fun s1=>(popsP s1 want).then fun s2=>.ok (killP s2))=R):=hstep
        clear hlw hstep
        go_wp2_with fail
        refine HEQ.out.mono ?_;rintro e6 w6 ⟨rfl,h6⟩
        have HB6:Hid (Below w2.heap.size w2 w6):=HB5.out.trans (h6.out.mono HB5.out.size)
        clear HEQ h6
        go_wp2_with fail
        refine(must_yes _ _).mono ?_;rintro e7 w7 ⟨rfl,rfl⟩
        go_wp2_with fail
        go_roundw
        case rel=>exact⟨k+1,by go_num,by omega,HB6,hnext⟩
        case measure=>simp[intOf]<;>omega
       | false =>
        rw[hlw]at hstep HEQ
        have hend:Hid (R=.bad 5):=hstep.out.symm
        clear hlw hstep
        go_wp2_with fail
        refine HEQ.out.mono ?_;rintro e6 w6 ⟨rfl,h6⟩
        go_wp2_with fail
        refine(must_no 5 5 rfl _).mono ?_;rintro e7 w7 ⟨rfl,rfl⟩
        unfold flt
        go_wp2_with fail
        exact⟨rfl,StP.bad hend.out rfl (Bad.of (HF5.out.trans (NW.of_below h6.out)))⟩
     ·have hrr3:Hid ((pop1 (psOf cs st) 127).then (fun s1=>(popsP s1 want).then fun s2=>.ok (killP s2))=R):=by
       have:=hrr.out
       rw[List.drop_of_length_le (by omega)]at this
       exact this
      have hk3:=hide (hkW.out.quiet hbr2)
      have hn3:=hide (hnW.out.trans (NW.of_below hbr2))
      have HP:=hide (cpop_any K vs vb cs st 127 wr hk3 hv.out hs hcl)
      have hge:(x.l.l.length:Int)≤(k:Int):=by omega
      clear hrr hlt hbr2 hb3 hfin
      unfold pop1 at hrr3
      have hpk:=fun q (hq:popP (psOf cs st) 127=.ok q)=>popP_ok hq hv.out
      cases hq:popP (psOf cs st) 127 with
      | bad n =>
       rw[hq]at HP hrr3
       simp only at HP
       have hend:Hid (R=.bad n):=hrr3.out.symm
       clear hq hpk hrr3
       go_wp2_with fail
       refine HP.out.mono ?_;rintro e5 w5 ⟨rfl,h5⟩
       unfold flt
       go_wp2_with fail
       exact⟨rfl,StP.bad hend.out rfl ((NW.bad hn3.out h5.out))⟩
      | ok q =>
       obtain⟨i1,i2,i3⟩:=hpk q hq
       rw[hq]at HP hrr3
       simp only at HP
       have hrr4:Hid ((popsP q.1 want).then (fun s2=>.ok (killP s2))=R):=hrr3
       have I1:=hide i1;have I2:=hide i2
       have I3:q.1.st.length≤10000000:=Nat.le_trans i3 hs
       clear hq hpk hrr3 i1 i2 i3
       go_wp2_with fail
       refine HP.out.mono ?_;rintro e5 w5 ⟨vs5,rfl,hk5,hn5,hbl5⟩
       have hps:psOf cs q.1.st=q.1:=psOf_eq hbl5
       have HPS:=hide (cpops_any K vs5 vb cs q.1.st sw w5 hk5 (hide (hrw3.out.step hn5.out)) (by rw[hps];exact I1) I3 hcl (by omega))
       rw[hps,HSW.out]at HPS
       have hnn5:=hide (hn3.out.trans hn5.out)
       rw[HSW.out]
       clear HP hps hbl5
       have hpk:=fun s (hq:popsP q.1 want=.ok s)=>popsP_ok hq I1.out
       cases hq2:popsP q.1 want with
       | bad n =>
        rw[hq2]at HPS hrr4
        unfold StQ at HPS
        simp only at HPS
        have hend:Hid (R=.bad n):=hrr4.out.symm
        clear hq2 hpk hrr4
        go_wp2_with fail
        refine HPS.out.mono ?_;rintro e6 w6 ⟨rfl,h6⟩
        unfold flt
        go_wp2_with fail
        exact⟨rfl,StP.bad hend.out rfl ((NW.bad hnn5.out h6.out))⟩
       | ok s2 =>
        obtain⟨j1,j2,j3⟩:=hpk s2 hq2
        rw[hq2]at HPS hrr4
        unfold StQ at HPS
        simp only at HPS
        have hend:Hid (R=.ok (killP s2)):=hrr4.out.symm
        have J1:=hide j1
        have J3:s2.st.length≤10000000:=Nat.le_trans j3 I3
        clear hq2 hpk hrr4 j1 j2 j3
        go_wp2_with fail
        refine HPS.out.mono ?_;rintro e6 w6 ⟨vs6,rfl,hk6,hn6,hbl6⟩
        have hps2:psOf cs s2.st=s2:=psOf_eq hbl6.out
        have HKL:=hide (ckill_any K vs6 vb cs s2.st w6 hk6 (hide (by rw[hps2];exact J1.out)) J3 hcl)
        rw[hps2]at HKL
        have hnn6:=hide (hnn5.out.trans hn6.out)
        unfold StP at HKL
        simp only at HKL
        clear HPS hps2
        go_wp2_with fail
        refine HKL.out.mono ?_;rintro e7 w7 ⟨vs7,vb7,cs7,rfl,hk7,hn7,hbl7⟩
        go_wp2_with fail
        go_end0
        exact StP.ok hend.out rfl hk7.out (hnn6.out.trans hn7.out) hbl7.out
end Go.Proofs.YtomppgohoplemaaGreat
