import Derived.Test.YtomppgohoplemaaGreatNAW
set_option linter.unusedVariables false
namespace Go.Proofs.YtomppgohoplemaaGreat
open Go.RowKit
theorem blk_elem:IsElem Tryz.prog 147 146 5 48:=IsElem.mk' Tryz.underlying147 (z:=.agg #[.bool false,.bool false,.slice none 0 0,.int .i64 0,.bool false]) (by kernel_rfl) rfl (by omega)
theorem CK.push_bl {w w2:World} {K:KX} {vs vb vb':Value} {cs:List CB} {st:List UInt8} {b:CB} (h:CK w K vs vb cs st) (hg:Grows w w2 vb vb') (ho:w2.ownsRow K.bs 146 5 vb' (cs.length+1) (cs.flatMap CB.cs++CB.cs b)) (hr:ResIn w K vs vb b.res) :
  CK (w2.setCell ⟨K.cb,5,none⟩ vb') K vs vb' (cs++[b]) st∧NW w (w2.setCell ⟨K.cb,5,none⟩ vb') K.cb vs vb vs vb' :=
 h.set_bl hg (own_cast ho (by simp) (by simp)) (fun b' hb'=>by
  rcases List.mem_append.1 hb' with hb'|hb'
  ·exact h.rr b' hb'
  ·simp at hb';subst hb';exact hr)
set_option maxRecDepth 100000 in
set_option maxHeartbeats 3200000 in
theorem cother_any (K:KX) (vs vb:Value) (cs:List CB) (st:List UInt8) (w:World) (h:Hid (CK w K vs vb cs st)) (hv:Hid (InvP (psOf cs st))) (hs:st.length≤10000000) (hcl:cs.length≤100000) :
  Calls Tryz.prog 130 #[.pointer (some ⟨K.cb,0,none⟩)] w (StP w K vs vb (otherP (psOf cs st)) (.tuple #[])):=by
 have HC:=hide (cclose_any K vs vb cs st w h hv hs hcl)
 unfold otherP
 cases hq:closeP (psOf cs st) with
 | bad n =>
  rw[hq]at HC
  unfold CloseP at HC
  simp only at HC
  simp only[RR.then]
  unfold StP
  simp only
  go_enter Tryz.func130,Tryz.ntmps130
  go_wp2_with fail
  refine HC.out.mono ?_;rintro e w5 ⟨rfl,h5⟩
  unfold flt
  go_wp2_with fail
  exact⟨rfl,rfl,h5⟩
 | ok q =>
  rw[hq]at HC
  unfold CloseP at HC
  simp only at HC
  simp only[RR.then]
  unfold StP
  simp only
  have hcl2:q.1.bl.length≤100000:=by rw[(closeP_ok hq hv.out).2.1,List.length_take];show min _ (cs.map CB.p).length≤_;rw[List.length_map];omega
  clear hq
  go_enter Tryz.func130,Tryz.ntmps130
  go_wp2_with fail
  refine HC.out.mono ?_;rintro e w1 ⟨vs1,vb1,cs1,b,rfl,hk1,hn1,hbl1,hb1,hri1⟩
  obtain⟨W,hW,hbw,hx,hsz⟩:=box_new w1 #[.bool b.lp,.bool b.is_,.slice b.res.at_ b.res.l.length b.res.cap,.int .i64 (b.h:Int),.bool b.dead] 146
  obtain⟨xg,hxg⟩:∃xg,w1.heap.size=xg:=⟨_,rfl⟩
  rw[hxg]at hx
  have HW:=hide hW;have HXG:=hide hxg
  have hkW:=hk1.out.quiet hbw
  have hriW:=hri1.out.step (NW.of_below hbw)
  have hxk:xg≠K.cb:=by have:=hk1.out.size.2;omega
  have hxv:vs1.ownBlock≠some xg:=fun e=>by have:=own_lt hk1.out.os xg e;omega
  have hxb:vb1.ownBlock≠some xg:=fun e=>by have:=own_lt hk1.out.ob xg e;omega
  have hxr:∀b'∈cs1,0<b'.res.l.length→∀ad,b'.res.at_=some ad→ad.block≠xg:=fun b' hb' h0 ad ha=>by have:=((hk1.out.rr b' hb').apart h0 ad ha).1;omega
  have hxo:0<b.res.l.length→∀ad,b.res.at_=some ad→ad.block≠xg:=fun h0 ad ha=>by have:=(hri1.out.apart h0 ad ha).1;omega
  have d1:W.cell? ⟨xg,1,none⟩=some (.bool b.is_):=cell_blk hx 1
  have d4:W.cell? ⟨xg,4,none⟩=some (.bool b.dead):=cell_blk hx 4
  have z1:=frozen_blk hx 1
  have z4:=frozen_blk hx 4
  have hx2:((W.setCell ⟨xg,1,none⟩ (.bool false)).setCell ⟨xg,4,none⟩ (.bool false)).heap[xg]?=some (.cells #[.bool b.lp,.bool false,.slice b.res.at_ b.res.l.length b.res.cap,.int .i64 (b.h:Int),.bool false] 146 (0,0)):=setCell_blk (setCell_blk hx 1 (.bool false)) 4 (.bool false)
  have hO:Only [xg] W ((W.setCell ⟨xg,1,none⟩ (.bool false)).setCell ⟨xg,4,none⟩ (.bool false)):=(Only.setCell W (p:=⟨xg,1,none⟩) (by simp) _).trans (Only.setCell _ (p:=⟨xg,4,none⟩) (by simp) _)
  have hk2:=hkW.other hO (fun e=>hxk e.symm) hxv hxb hxr
  have hri2:=hriW.other hO hxo
  have hn2:=(hn1.out.trans (NW.of_below hbw)).then_new hO (by have:=hn1.out.only.size;omega)
  clear hW hxg
  go_upto_region 1 with fail
  rw[HW.out,HXG.out]
  go_upto_region 2 with fail
  generalize (W.setCell ⟨xg,1,none⟩ (.bool false)).setCell ⟨xg,4,none⟩ (.bool false)=w2 at *
  have c5:=hk2.c5
  have a0:w2.cell? ⟨xg,0,none⟩=some (.bool b.lp):=cell_blk hx2 0
  have a1:w2.cell? ⟨xg,1,none⟩=some (.bool false):=cell_blk hx2 1
  have a2:w2.cell? ⟨xg,2,none⟩=some (.slice b.res.at_ b.res.l.length b.res.cap):=cell_blk hx2 2
  have a3:w2.cell? ⟨xg,3,none⟩=some (.int .i64 (b.h:Int)):=cell_blk hx2 3
  have a4:w2.cell? ⟨xg,4,none⟩=some (.bool false):=cell_blk hx2 4
  have hroom:Room cs1.length 1 48:=room_of (by have:=congrArg List.length hbl1.out;rw[List.length_map]at this;omega) (by omega)
  have hbase:K.bs≤w2.heap.size:=Nat.le_of_lt hk2.size.1
  obtain⟨Ab,qb,hvb,_,_⟩:=own_form hk2.ob
  subst hvb
  have HK2:=hide hk2;have HN2:=hide hn2;have HRI2:=hide hri2
  have HBK:Hid (∀v3 w3,Grows w2 w3 (.slice Ab cs1.length qb) v3→w3.heap[K.cb]?=some (.cells #[K.c0,K.c1,K.c2,K.c3,vs1,.slice Ab cs1.length qb] 149 (0,0))):=fun v3 w3 hg=>(hg.only.block K.cb HK2.out.size.2 (fun hm=>HK2.out.ab (by simpa using hm))).trans HK2.out.blk
  clear d1 d4 z1 z4 hx hx2 hO hk2 hn2 hri2 hkW hriW hxr hxo hbw hk1 hn1 hri1
  have hcb:=HK2.out.size.2
  go_region_law (refine step_push (by rfl) _ _ (by rfl) K.bs blk_elem _ _ _ (by rfl) w2 [.bool b.lp,.bool false,.slice b.res.at_ b.res.l.length b.res.cap,.int .i64 (b.h:Int),.bool false] 146 (by rfl) HK2.out.ob (by rfl) rfl (by simp[Value.oneCell']) hroom hbase ?_;intro vb' w3 ho2 hg2;have y5:=cell_blk (HBK.out _ _ hg2) 5;have z5:=frozen_blk (HBK.out _ _ hg2) 5;obtain⟨Ao2,co2,rfl,ho3,ho4⟩:=own_form ho2;simp at y5)
  all_goals
   go_end0
   obtain⟨k1,k2⟩:=HK2.out.push_bl (b:={ b with is_:=false,dead:=false }) hg2 ho2 HRI2.out
   refine⟨vs1,_,cs1++[{ b with is_:=false,dead:=false }],rfl,hide (k1.quiet ?_),hide ((HN2.out.trans k2).trans (NW.of_below ?_)),?_⟩
   ·first|exact Below.refl _ _|exact(Below.refl _ _).drew
   ·first|exact Below.refl _ _|exact(Below.refl _ _).drew
   ·show _=_
    rw[hbl1.out,hb1.out,List.map_append]
    rfl
set_option maxRecDepth 100000 in
set_option maxHeartbeats 3200000 in
theorem cend_any (K:KX) (vs vb:Value) (cs:List CB) (st:List UInt8) (w:World) (h:Hid (CK w K vs vb cs st)) (hv:Hid (InvP (psOf cs st))) (hs:st.length≤10000000) (hcl:cs.length≤100000) :
  Calls Tryz.prog 131 #[.pointer (some ⟨K.cb,0,none⟩)] w (StP w K vs vb (endP (psOf cs st)) (.tuple #[])):=by
 have HC:=hide (cclose_any K vs vb cs st w h hv hs hcl)
 unfold endP
 cases hq:closeP (psOf cs st) with
 | bad n =>
  rw[hq]at HC
  unfold CloseP at HC
  simp only at HC
  simp only[RR.then]
  unfold StP
  simp only
  go_enter Tryz.func131,Tryz.ntmps131
  go_wp2_with fail
  refine HC.out.mono ?_;rintro e w5 ⟨rfl,h5⟩
  unfold flt
  go_wp2_with fail
  exact⟨rfl,rfl,h5⟩
 | ok q =>
  have hcq:=closeP_ok hq hv.out
  have hst2:q.1.st.length≤10000000:=Nat.le_trans hcq.2.2.2 hs
  have hrl2:q.2.res.length≤1000:=by
   rw[hcq.1]
   exact hv.out.res _ (List.mem_of_getElem? (top_last hv.out.ne))
  rw[hq]at HC
  unfold CloseP at HC
  simp only at HC
  simp only[RR.then]
  clear hq hcq
  have hpre:∀(okb:Bool),(!q.2.is_||q.2.res.length==0)=okb →
    Calls Tryz.prog 131 #[.pointer (some ⟨K.cb,0,none⟩)] w (StP w K vs vb (need okb 5 (.ok (pushP q.1 q.2.res))) (.tuple #[])):=by
   intro okb hokb
   have HOK:=hide hokb
   clear hokb
   cases okb with
   | true =>
    simp only[need,if_true]
    unfold StP
    simp only
    go_enter Tryz.func131,Tryz.ntmps131
    go_wp2_with fail
    refine HC.out.mono ?_;rintro e w1 ⟨vs1,vb1,cs1,b,rfl,hk1,hn1,hbl1,hb1,hri1⟩
    obtain⟨W,hW,hbw,hx,hsz⟩:=box_new w1 #[.bool b.lp,.bool b.is_,.slice b.res.at_ b.res.l.length b.res.cap,.int .i64 (b.h:Int),.bool b.dead] 146
    obtain⟨xg,hxg⟩:∃xg,w1.heap.size=xg:=⟨_,rfl⟩
    rw[hxg]at hx
    have HW:=hide hW;have HXG:=hide hxg
    have hkW:=hide (hk1.out.quiet hbw)
    have hriW:=hri1.out.step (NW.of_below hbw)
    have hnW:=hide (hn1.out.trans (NW.of_below hbw))
    have d1:W.cell? ⟨xg,1,none⟩=some (.bool b.is_):=cell_blk hx 1
    have d2:W.cell? ⟨xg,2,none⟩=some (.slice b.res.at_ b.res.l.length b.res.cap):=cell_blk hx 2
    have hbr:b.res.l=q.2.res:=by rw[hb1.out];rfl
    have hbi:b.is_=q.2.is_:=by rw[hb1.out];rfl
    have HP:=hide (cpush_any K vs1 vb1 cs1 q.1.st b.res.at_ b.res.cap b.res.l.length b.res.l W hkW hriW.row.bytes rfl hst2 (by rw[hbr];omega))
    have hc:=HOK.out
    rw[←hbi,←hbr]at hc
    have HCD:=hide hc;have HBR:=hide hbr
    clear hc hbr hbi
    clear hW hxg hx hsz hbw hriW
    go_upto_region 1 with fail
    rw[HW.out,HXG.out]
    cases hb0:b.is_ with
    | false =>
     rw[hb0]at d1
     clear hb0
     go_wp2_with fail
     refine(must_yes _ _).mono ?_;rintro e w3 ⟨rfl,rfl⟩
     go_wp2_with fail
     refine HP.out.mono ?_;rintro e w4 ⟨vs4,rfl,hk4,hn4⟩
     go_wp2_with fail
     go_end0
     refine⟨vs4,vb1,cs1,rfl,?_,hnW.out.trans hn4.out,hbl1⟩
     rw[←HBR.out]
     exact hk4
    | true =>
     rw[hb0]at d1
     have hl0:((b.res.l.length:Int)==0)=true:=by have:=HCD.out;rw[hb0]at this;simp at this;simp[this]
     clear hb0
     go_wp2_with fail
     refine(must_yes _ _).mono ?_;rintro e w3 ⟨rfl,rfl⟩
     go_wp2_with fail
     refine HP.out.mono ?_;rintro e w4 ⟨vs4,rfl,hk4,hn4⟩
     go_wp2_with fail
     go_end0
     refine⟨vs4,vb1,cs1,rfl,?_,hnW.out.trans hn4.out,hbl1⟩
     rw[←HBR.out]
     exact hk4
   | false =>
    simp only[need,Bool.false_eq_true,if_false]
    unfold StP
    simp only
    go_enter Tryz.func131,Tryz.ntmps131
    go_wp2_with fail
    refine HC.out.mono ?_;rintro e w1 ⟨vs1,vb1,cs1,b,rfl,hk1,hn1,hbl1,hb1,hri1⟩
    obtain⟨W,hW,hbw,hx,hsz⟩:=box_new w1 #[.bool b.lp,.bool b.is_,.slice b.res.at_ b.res.l.length b.res.cap,.int .i64 (b.h:Int),.bool b.dead] 146
    obtain⟨xg,hxg⟩:∃xg,w1.heap.size=xg:=⟨_,rfl⟩
    rw[hxg]at hx
    have HW:=hide hW;have HXG:=hide hxg
    have hnW:=hide (hn1.out.trans (NW.of_below hbw))
    have hbr:b.res.l=q.2.res:=by rw[hb1.out];rfl
    have hbi:b.is_=q.2.is_:=by rw[hb1.out];rfl
    have hc:=HOK.out
    rw[←hbi,←hbr]at hc
    have hb0:b.is_=true:=by cases hq:b.is_<;>simp[hq]at hc ⊢
    have hl0:((b.res.l.length:Int)==0)=false:=by rw[hb0]at hc;simp at hc ⊢;exact hc
    have d1:W.cell? ⟨xg,1,none⟩=some (.bool true):=by rw[←hb0];exact cell_blk hx 1
    have d2:W.cell? ⟨xg,2,none⟩=some (.slice b.res.at_ b.res.l.length b.res.cap):=cell_blk hx 2
    clear hW hxg hx hsz hbw hc hbr hbi hb0
    go_upto_region 1 with fail
    rw[HW.out,HXG.out]
    go_wp2_with fail
    refine(must_no 5 5 rfl _).mono ?_;rintro e w3 ⟨rfl,rfl⟩
    unfold flt
    go_wp2_with fail
    exact⟨rfl,rfl,Bad.of hnW.out⟩
  exact hpre _ rfl
theorem ins_box (w:World) (x:XL):∃W,w.alloc (.cells #[.int .i64 x.code,.int .u64 (x.a:Int),.int .u64 (x.b:Int),.int .i64 x.al,.slice x.l.at_ x.l.l.length x.l.cap] 131)=W∧Below w.heap.size w W ∧
  W.heap[w.heap.size]?=some (.cells #[.int .i64 x.code,.int .u64 (x.a:Int),.int .u64 (x.b:Int),.int .i64 x.al,.slice x.l.at_ x.l.l.length x.l.cap] 131 (0,0))∧W.heap.size=w.heap.size+1:=box_new w _ _
abbrev insV2 (x:XL):Value:=.agg #[.int .i64 x.code,.int .u64 (x.a:Int),.int .u64 (x.b:Int),.int .i64 x.al,.slice x.l.at_ x.l.l.length x.l.cap]
set_option maxRecDepth 100000 in
set_option maxHeartbeats 3200000 in
theorem copen_any (K:KX) (vs vb:Value) (cs:List CB) (st:List UInt8) (x:XL) (w:World) (h:Hid (CK w K vs vb cs st)) (hs:st.length≤10000000) (hcl:cs.length≤100000) :
  Calls Tryz.prog 129 #[.pointer (some ⟨K.cb,0,none⟩),insV2 x] w (StP w K vs vb (.ok (openP (psOf cs st) x.code x.a)) (.tuple #[])):=by
 obtain⟨W,hW,hbw,hx,hsz⟩:=ins_box w x
 obtain⟨ig,hig⟩:∃ig,w.heap.size=ig:=⟨_,rfl⟩
 rw[hig]at hx
 have hkW:=hide (h.out.quiet hbw)
 have hnW:Hid (NW w W K.cb vs vb vs vb):=NW.of_below hbw
 obtain⟨A4,q4,hv4,_,_⟩:=own_form h.out.os
 subst hv4
 have c4:=hkW.out.c4
 have d0:W.cell? ⟨ig,0,none⟩=some (.int .i64 x.code):=cell_blk hx 0
 have d1:W.cell? ⟨ig,1,none⟩=some (.int .u64 (x.a:Int)):=cell_blk hx 1
 have hcb:=hkW.out.size.2
 have higs:ig<W.heap.size:=blk_lt hx
 have HW:=hide hW;have HIG:=hide hig
 unfold StP insV2
 simp only
 obtain⟨p3,hp3⟩:∃p,(x.code==3)=p:=⟨_,rfl⟩
 obtain⟨p4,hp4⟩:∃p,(x.code==4)=p:=⟨_,rfl⟩
 have HP3:=hide hp3;have HP4:=hide hp4
 have hxblk:=hide hx
 clear hW hx hig hbw hsz
 go_enter Tryz.func129,Tryz.ntmps129
 go_upto_region 1 with fail
 rw[HW.out,HIG.out]
 go_wp2_with fail
 go_region
 clear hp3 hp4
 obtain⟨W2,hW2⟩:∃W2,(W.alloc (.cells #[.bool p3,.bool p4,.slice none 0 0,.int .i64 (st.length:Int),.bool false] 146)).drew=W2:=⟨_,rfl⟩
 obtain⟨bg,hbg⟩:∃bg,W.heap.size=bg:=⟨_,rfl⟩
 have hb2:Below W.heap.size W W2:=by rw[←hW2];exact((Below.refl _ _).alloc (Nat.le_refl _) _).drew
 have hxb:Hid (W2.heap[bg]?=some (.cells #[.bool p3,.bool p4,.slice none 0 0,.int .i64 (st.length:Int),.bool false] 146 (0,0))):=by show _=_;rw[←hW2,←hbg];exact heap_alloc_new W _
 have hkW2:=hide (hkW.out.quiet hb2)
 have hnW2:=hide (hnW.out.trans (NW.of_below hb2))
 have e1:W2.cell? ⟨ig,1,none⟩=some (.int .u64 (x.a:Int)):=cell_blk ((hb2.block ig higs).trans hxblk.out) 1
 rw[hW2,hbg]
 have HBG:=hide hbg;have HB2:=hide hb2
 clear hW2 hbg hb2 c4 d0 d1 hkW hnW
 by_cases ha:x.a=64
 ·rw[ha]at e1
  have HA:=hide ha
  have hri2:Hid (ResIn W2 K (.slice A4 st.length q4) vb ⟨none,0,[]⟩):=⟨⟨Reads.none_,Nat.le_refl _,by unfold maxLen;exact Nat.zero_le _⟩,fun h0=>by simp at h0,fun h0=>by simp at h0⟩
  have hk2:=hkW2;have hn2:=hnW2;have hx2:=hxb
  clear ha hkW2 hnW2 hxb HB2
  obtain⟨w2,hw2⟩:∃w2,W2=w2:=⟨_,rfl⟩
  subst hw2
  have c5:=hk2.out.c5
  have a0:W2.cell? ⟨bg,0,none⟩=some (.bool p3):=cell_blk hx2.out 0
  have a1:W2.cell? ⟨bg,1,none⟩=some (.bool p4):=cell_blk hx2.out 1
  have a2:W2.cell? ⟨bg,2,none⟩=some (.slice none 0 0):=cell_blk hx2.out 2
  have a3:W2.cell? ⟨bg,3,none⟩=some (.int .i64 (st.length:Int)):=cell_blk hx2.out 3
  have a4:W2.cell? ⟨bg,4,none⟩=some (.bool false):=cell_blk hx2.out 4
  have hroom:Room cs.length 1 48:=room_of (by omega) (by omega)
  have hbase:K.bs≤W2.heap.size:=Nat.le_of_lt hk2.out.size.1
  obtain⟨Ab,qb,hvb,_,_⟩:=own_form hk2.out.ob
  subst hvb
  have HBK:Hid (∀v3 w3,Grows W2 w3 (.slice Ab cs.length qb) v3→w3.heap[K.cb]?=some (.cells #[K.c0,K.c1,K.c2,K.c3,.slice A4 st.length q4,.slice Ab cs.length qb] 149 (0,0))):=fun v3 w3 hg=>(hg.only.block K.cb hk2.out.size.2 (fun hm=>hk2.out.ab (by simpa using hm))).trans hk2.out.blk
  have hcb2:=hk2.out.size.2
  have hbg2:=blk_lt hx2.out
  go_wp2_with fail
  go_region_law (refine step_push (by rfl) _ _ (by rfl) K.bs blk_elem _ _ _ (by rfl) W2 [.bool p3,.bool p4,.slice none 0 0,.int .i64 (st.length:Int),.bool false] 146 (by rfl) hk2.out.ob (by rfl) rfl (by simp[Value.oneCell']) hroom hbase ?_;intro vb' w3 ho2 hg2;have y5:=cell_blk (HBK.out _ _ hg2) 5;have z5:=frozen_blk (HBK.out _ _ hg2) 5;obtain⟨Ao2,co2,rfl,ho3,ho4⟩:=own_form ho2;simp at y5)
  all_goals
   go_end0
   obtain⟨k1,k2⟩:=hk2.out.push_bl (b:=⟨p3,p4,⟨none,0,[]⟩,st.length,false⟩) hg2 ho2 hri2.out
   refine⟨_,_,cs++[⟨p3,p4,⟨none,0,[]⟩,st.length,false⟩],rfl,hide (k1.quiet ?_),hide ((hn2.out.trans k2).trans (NW.of_below ?_)),?_⟩
   ·first|exact Below.refl _ _|exact(Below.refl _ _).drew
   ·first|exact Below.refl _ _|exact(Below.refl _ _).drew
   ·show _=_
    unfold openP psOf
    rw[HP3.out,HP4.out,List.map_append]
    rw[if_pos HA.out]
    rfl
 ·have hne:((x.a:Int) != 64)=true:=by simp;omega
  have HA:=hide ha
  have hu8:IntKind.u8.wrap (x.a:Int)=((UInt8.ofNat x.a).toNat:Int):=by
   rw[show IntKind.u8.wrap (x.a:Int)=(x.a:Int)%256 from by simp[IntKind.wrap,IntKind.bits,IntKind.signed],UInt8.toNat_ofNat']
   omega
  obtain⟨rg,hrg⟩:∃rg,W2.heap.size=rg:=⟨_,rfl⟩
  have hbk:bg≠K.cb:=by have:=hcb;have:=HBG.out;omega
  have hbv:(Value.slice A4 st.length q4).ownBlock≠some bg:=fun e=>by have:=own_lt h.out.os bg e;have:=HBG.out;have:=HIG.out;omega
  have hbb:vb.ownBlock≠some bg:=fun e=>by have:=own_lt h.out.ob bg e;have:=HBG.out;have:=HIG.out;omega
  have hbr:∀b'∈cs,0<b'.res.l.length→∀ad,b'.res.at_=some ad→ad.block≠bg:=fun b' hb' h0 ad ha=>by have:=((h.out.rr b' hb').apart h0 ad ha).1;have:=HBG.out;have:=HIG.out;omega
  have hrk:rg≠K.cb:=by have:=hkW2.out.size.2;omega
  have hrv:(Value.slice A4 st.length q4).ownBlock≠some rg:=fun e=>by have:=own_lt hkW2.out.os rg e;omega
  have hrb:vb.ownBlock≠some rg:=fun e=>by have:=own_lt hkW2.out.ob rg e;omega
  have hrz:K.far≠some rg:=fun e=>by have:=hkW2.out.fz rg e;omega
  have hO:Only [bg] W2 (W2.setCell ⟨bg,2,none⟩ (.slice (some ⟨rg,0,none⟩) 1 1)):=Only.setCell W2 (p:=⟨bg,2,none⟩) (by simp) _
  have hk3:=hkW2.out.other hO (fun e=>hbk e.symm) hbv hbb hbr
  have hn3:=hnW2.out.then_new hO (by have:=HBG.out;have:=HIG.out;omega)
  have hx3:(W2.setCell ⟨bg,2,none⟩ (.slice (some ⟨rg,0,none⟩) 1 1)).heap[bg]?=some (.cells #[.bool p3,.bool p4,.slice (some ⟨rg,0,none⟩) 1 1,.int .i64 (st.length:Int),.bool false] 146 (0,0)):=setCell_blk hxb.out 2 _
  have hs3:(W2.setCell ⟨bg,2,none⟩ (.slice (some ⟨rg,0,none⟩) 1 1)).heap.size=rg:=by rw[←hrg];simp[World.setCell]
  have y2:W2.cell? ⟨bg,2,none⟩=some (.slice none 0 0):=cell_blk hxb.out 2
  have z2:=frozen_blk hxb.out 2
  have hbgl:=blk_lt hxb.out
  obtain⟨V3,hV3⟩:∃V3,W2.setCell ⟨bg,2,none⟩ (.slice (some ⟨rg,0,none⟩) 1 1)=V3:=⟨_,rfl⟩
  rw[hV3]at hk3 hn3 hx3 hs3
  obtain⟨W3,hW3,hb3,hx4,hs4⟩:=box_new V3 #[.int .u8 ((x.a:Int)%256)] 133
  rw[hs3]at hx4
  have hkf:=hide (hk3.quiet hb3)
  have hnf:=hide (hn3.trans (NW.of_below hb3))
  have hxf:Hid (W3.heap[bg]?=some (.cells #[.bool p3,.bool p4,.slice (some ⟨rg,0,none⟩) 1 1,.int .i64 (st.length:Int),.bool false] 146 (0,0))):=(hb3.block bg (blk_lt hx3)).trans hx3
  have hu:(x.a:Int)%256=((UInt8.ofNat x.a).toNat:Int):=by rw[UInt8.toNat_ofNat'];omega
  have hrif:Hid (ResIn W3 K (.slice A4 st.length q4) vb ⟨some ⟨rg,0,none⟩,1,[UInt8.ofNat x.a]⟩):=by
   refine⟨⟨?_,Nat.le_refl _,by show 1≤maxLen;unfold maxLen;omega⟩,fun h0 ad ha=>?_,fun h0 ad ha=>by simp only[Option.some.injEq]at ha;subst ha;exact hrz⟩
   ·rw[hu]at hx4
    exact reads_blk (cs:=[.int .u8 ((UInt8.ofNat x.a).toNat:Int)]) hx4 rfl
   ·simp only[Option.some.injEq]at ha
    subst ha
    exact⟨blk_lt hx4,hrk,hrv,hrb⟩
  have HW3:=hide hW3;have HRG:=hide hrg;have HV3:=hide hV3
  clear ha hkW2 hnW2 hxb HB2 hW3 hb3 hx3 hs3 hrg hk3 hn3 hbk hbv hbb hbr hrk hrv hrb hrz hO hu8 hV3 hs4 hx4 hu
  go_upto_region 4 with fail
  rw[HRG.out,HV3.out,HW3.out]
  obtain⟨w2,hw2⟩:∃w2,W3=w2:=⟨_,rfl⟩
  rw[hw2]at hkf hnf hxf hrif ⊢
  clear hw2 y2 z2 hbgl
  have hk2:=hkf;have hn2:=hnf;have hx2:=hxf;have hri2:=hrif
  clear hkf hnf hxf hrif
  have c5:=hk2.out.c5
  have a0:w2.cell? ⟨bg,0,none⟩=some (.bool p3):=cell_blk hx2.out 0
  have a1:w2.cell? ⟨bg,1,none⟩=some (.bool p4):=cell_blk hx2.out 1
  have a2:w2.cell? ⟨bg,2,none⟩=some (.slice (some ⟨rg,0,none⟩) 1 1):=cell_blk hx2.out 2
  have a3:w2.cell? ⟨bg,3,none⟩=some (.int .i64 (st.length:Int)):=cell_blk hx2.out 3
  have a4:w2.cell? ⟨bg,4,none⟩=some (.bool false):=cell_blk hx2.out 4
  have hroom:Room cs.length 1 48:=room_of (by omega) (by omega)
  have hbase:K.bs≤w2.heap.size:=Nat.le_of_lt hk2.out.size.1
  obtain⟨Ab,qb,hvb,_,_⟩:=own_form hk2.out.ob
  subst hvb
  have HBK:Hid (∀v3 w3,Grows w2 w3 (.slice Ab cs.length qb) v3→w3.heap[K.cb]?=some (.cells #[K.c0,K.c1,K.c2,K.c3,.slice A4 st.length q4,.slice Ab cs.length qb] 149 (0,0))):=fun v3 w3 hg=>(hg.only.block K.cb hk2.out.size.2 (fun hm=>hk2.out.ab (by simpa using hm))).trans hk2.out.blk
  have hcb2:=hk2.out.size.2
  have hbg2:=blk_lt hx2.out
  go_wp2_with fail
  go_region_law (refine step_push (by rfl) _ _ (by rfl) K.bs blk_elem _ _ _ (by rfl) w2 [.bool p3,.bool p4,.slice (some ⟨rg,0,none⟩) 1 1,.int .i64 (st.length:Int),.bool false] 146 (by rfl) hk2.out.ob (by rfl) rfl (by simp[Value.oneCell']) hroom hbase ?_;intro vb' w3 ho2 hg2;have y5:=cell_blk (HBK.out _ _ hg2) 5;have z5:=frozen_blk (HBK.out _ _ hg2) 5;obtain⟨Ao2,co2,rfl,ho3,ho4⟩:=own_form ho2;simp at y5)
  all_goals
   go_end0
   obtain⟨k1,k2⟩:=hk2.out.push_bl (b:=⟨p3,p4,⟨some ⟨rg,0,none⟩,1,[UInt8.ofNat x.a]⟩,st.length,false⟩) hg2 ho2 hri2.out
   refine⟨_,_,cs++[⟨p3,p4,⟨some ⟨rg,0,none⟩,1,[UInt8.ofNat x.a]⟩,st.length,false⟩],rfl,hide (k1.quiet ?_),hide ((hn2.out.trans k2).trans (NW.of_below ?_)),?_⟩
   ·first|exact Below.refl _ _|exact(Below.refl _ _).drew
   ·first|exact Below.refl _ _|exact(Below.refl _ _).drew
   ·show _=_
    unfold openP psOf
    rw[HP3.out,HP4.out,List.map_append]
    rw[if_neg HA.out]
    rfl
def LabP (w:World) (K:KX) (vs vb:Value) (cs:List CB) (st:List UInt8) (r:RR (List UInt8)) (e:Ending) (w':World):Prop:=match r with
 | .ok l=>∃s:Sl UInt8,e=.returned (.slice s.at_ s.l.length s.cap)∧s.l=l∧Hid (ResIn w' K vs vb s)∧Hid (Below w.heap.size w w')
 | .bad n=>e=flt n∧Hid (Below w.heap.size w w')
theorem resIn_nil (w:World) (K:KX) (vs vb:Value):ResIn w K vs vb ⟨none,0,[]⟩:=⟨⟨Reads.none_,Nat.le_refl _,by unfold maxLen;exact Nat.zero_le _⟩,fun h0=>by simp at h0,fun h0=>by simp at h0⟩
set_option maxRecDepth 100000 in
set_option maxHeartbeats 3200000 in
theorem clabel_any (K:KX) (vs vb:Value) (cs:List CB) (st:List UInt8) (n:Nat) (w:World) (h:Hid (CK w K vs vb cs st)) (hcl:cs.length≤100000) (hn:n<18446744073709551616) :
  Calls Tryz.prog 133 #[.pointer (some ⟨K.cb,0,none⟩),.int .u64 (n:Int)] w (LabP w K vs vb cs st (labelP (psOf cs st) n)):=by
 have c5:=h.out.c5
 obtain⟨Ab,qb,hvb,_,_⟩:=own_form h.out.ob
 subst hvb
 unfold labelP
 rw[show (psOf cs st).bl.length=cs.length from by simp[psOf]]
 by_cases hlt:n<cs.length
 ·have hd:decide (n<cs.length)=true:=decide_eq_true hlt
  obtain⟨i,hi⟩:∃i,i+n+1=cs.length:=⟨cs.length-1-n,by omega⟩
  obtain⟨b,hb⟩:∃b,cs[i]?=some b:=⟨_,List.getElem?_eq_getElem (by omega)⟩
  have hgb:(psOf cs st).bl.getD (cs.length-1-n) noPB=b.p:=by rw[show cs.length-1-n=i from by omega];exact getD_some (by unfold psOf;simp[hb])
  rw[decide_eq_true hlt]
  simp only[need,if_true]
  rw[hgb]
  unfold LabP
  simp only[show b.p.lp=b.lp from rfl,show b.p.res=b.res.l from rfl]
  obtain⟨rl,hrl⟩:∃rl,(if b.lp=true then []else b.res.l)=rl:=⟨_,rfl⟩
  rw[hrl]
  have HRL:=hide hrl
  clear hrl
  obtain⟨g,c,hvb⟩:=own_some h.out.ob (by omega)
  injection hvb with hA _ hC
  subst hA hC
  obtain⟨k0,k1,k2,k3,k4⟩:=h.out.cells (g:=g) rfl hb
  have hgl:g<w.heap.size:=own_lt h.out.ob g rfl
  have hcb:=h.out.size.2
  have t1:IntKind.i64.wrap ((cs.length:Int)-1)=(cs.length:Int)-1:=IntWalk.i64_in _ (by omega)
  have t2:(cs.length:Int)-1-(n:Int)=(i:Int):=by omega
  have t3:IntKind.i64.wrap (n:Int)=(n:Int):=IntWalk.i64_in _ (by omega)
  have t4:(i:Int)<(cs.length:Int):=by omega
  have t5:i≤100000:=by omega
  have t6:n≤100000:=by omega
  have hri:=hide (h.out.rr b (List.mem_of_getElem? hb))
  clear hlt hi hb hgb
  go_enter Tryz.func133,Tryz.ntmps133
  go_wp2_with fail
  refine(must_yes _ _).mono ?_;rintro e w1 ⟨rfl,rfl⟩
  go_wp2_with fail
  go_region
  obtain⟨W2,hW2⟩:∃W2,(w.alloc (.cells #[.bool b.lp,.bool b.is_,.slice b.res.at_ b.res.l.length b.res.cap,.int .i64 (b.h:Int),.bool b.dead] 146)).drew=W2:=⟨_,rfl⟩
  have hb2:Below w.heap.size w W2:=by rw[←hW2];exact((Below.refl _ _).alloc (Nat.le_refl _) _).drew
  have hxb:W2.heap[w.heap.size]?=some (.cells #[.bool b.lp,.bool b.is_,.slice b.res.at_ b.res.l.length b.res.cap,.int .i64 (b.h:Int),.bool b.dead] 146 (0,0)):=by rw[←hW2];exact heap_alloc_new w _
  have hri2:=hide (hri.out.step (NW.of_below hb2))
  have d0:W2.cell? ⟨w.heap.size,0,none⟩=some (.bool b.lp):=cell_blk hxb 0
  have d2:W2.cell? ⟨w.heap.size,2,none⟩=some (.slice b.res.at_ b.res.l.length b.res.cap):=cell_blk hxb 2
  rw[hW2]
  have HB2:=hide hb2
  have hrn:=hide (resIn_nil W2 K vs (.slice (some ⟨g,0,none⟩) cs.length qb))
  clear hW2 hb2 hxb k0 k1 k2 k3 k4 c5 hri
  cases hlp:b.lp with
  | true =>
   rw[hlp]at d0
   have HLP:=hide hlp
   clear hlp
   go_wp2_with fail
   go_ret
   exact⟨⟨none,0,[]⟩,rfl,by rw[←HRL.out,HLP.out];rfl,hrn,HB2⟩
  | false =>
   rw[hlp]at d0
   have HLP:=hide hlp
   clear hlp
   go_wp2_with fail
   go_ret
   exact⟨b.res,rfl,by rw[←HRL.out,HLP.out];rfl,hri2,HB2⟩
 ·have hd:decide (n<cs.length)=false:=decide_eq_false hlt
  rw[decide_eq_false hlt]
  simp only[need,Bool.false_eq_true,if_false]
  unfold LabP
  simp only
  go_enter Tryz.func133,Tryz.ntmps133
  go_wp2_with fail
  refine(must_no 2 2 rfl _).mono ?_;rintro e w1 ⟨rfl,rfl⟩
  unfold flt
  go_wp2_with fail
  exact⟨rfl,rfl,Below.refl _ _⟩
structure KE (w0:World) (K:KX) (g:Nat) (m:MoL) (loc sp sr:Sl UInt8):Prop where
 c0:K.c0=.pointer (some ⟨g,0,none⟩)
 c1:K.c1=.slice loc.at_ loc.l.length loc.cap
 c2:K.c2=.slice sp.at_ sp.l.length sp.cap
 c3:K.c3=.slice sr.at_ sr.l.length sr.cap
 mo:MoAt w0 g m
 loc:Row w0 1 bD loc
 sr:Row w0 1 bD sr
 bs:w0.heap.size≤K.bs
 far:∀q,K.far=some q→w0.heap.size≤q
theorem CK.envc {w w0:World} {K:KX} {vs vb:Value} {cs:List CB} {st:List UInt8} {g:Nat} {m:MoL} {loc sp sr:Sl UInt8} (h:CK w K vs vb cs st) (he:KE w0 K g m loc sp sr) :
  w.cell? ⟨K.cb,0,none⟩=some (.pointer (some ⟨g,0,none⟩))∧w.cell? ⟨K.cb,1,none⟩=some (.slice loc.at_ loc.l.length loc.cap)∧w.cell? ⟨K.cb,2,none⟩=some (.slice sp.at_ sp.l.length sp.cap)∧w.cell? ⟨K.cb,3,none⟩=some (.slice sr.at_ sr.l.length sr.cap):=by
 refine⟨?_,?_,?_,?_⟩
 ·rw[←he.c0];exact cell_blk h.blk 0
 ·rw[←he.c1];exact cell_blk h.blk 1
 ·rw[←he.c2];exact cell_blk h.blk 2
 ·rw[←he.c3];exact cell_blk h.blk 3
theorem CK.res_env {w w0:World} {K:KX} {vs vb:Value} {cs:List CB} {st:List UInt8} {r:Sl UInt8} (h:CK w K vs vb cs st) (hs:w0.heap.size≤K.bs) (hfar:∀q,K.far=some q→w0.heap.size≤q) (hb:Below w0.heap.size w0 w) (hr:Row w0 1 bD r):ResIn w K vs vb r:=by
 refine⟨hr.below hb,fun h0 ad ha=>?_,fun h0 ad ha e=>by have:=hfar _ e;obtain⟨ad',ha',hlt,_⟩:=hr.r.2 h0;rw[ha]at ha';injection ha' with e';subst e';omega⟩
 obtain⟨ad',ha',hlt,_⟩:=hr.r.2 h0
 have:ad'=ad:=by rw[ha]at ha';injection ha' with e;exact e.symm
 subst this
 have h1:=h.size
 have h2:=h.bc
 exact⟨by omega,by omega,fun e=>by have:=own_ge h.os _ e;omega,fun e=>by have:=own_ge h.ob _ e;omega⟩
def ValP (w:World) {α:Type} (r:RR α) (v:α→Value) (e:Ending) (w':World):Prop:=match r with
 | .ok a=>e=.returned (v a)∧Hid (Below w.heap.size w w')
 | .bad n=>e=flt n∧Hid (Below w.heap.size w w')
section
variable {w0:World} {K:KX} {g:Nat} {m:MoL} {loc sp sr:Sl UInt8}
set_option maxRecDepth 100000 in
theorem clocal_any (vs vb:Value) (cs:List CB) (st:List UInt8) (n:Nat) (w:World) (p:List UInt8) (h:Hid (CK w K vs vb cs st)) (he:Hid (KE w0 K g m loc sp sr)) (hb:Hid (Below w0.heap.size w0 w)) (hl:loc.l.length≤100000) (hn:n<18446744073709551616) :
  Calls Tryz.prog 136 #[.pointer (some ⟨K.cb,0,none⟩),.int .u64 (n:Int)] w (ValP w (localP ⟨m.g,loc.l,p,sr.l⟩ n) (fun t=>.int .u8 (t.toNat:Int))):=by
 obtain⟨_,c1,_,_⟩:=h.out.envc he.out
 unfold localP
 simp only
 by_cases hlt:n<loc.l.length
 ·have hd:decide (n<loc.l.length)=true:=decide_eq_true hlt
  obtain⟨t,ht⟩:∃t,loc.l[n]?=some t:=⟨_,List.getElem?_eq_getElem hlt⟩
  rw[decide_eq_true hlt,getD_some ht]
  simp only[need,if_true]
  unfold ValP
  simp only
  obtain⟨ad,ha,_,k0,_⟩:=(he.out.loc.below hb.out).at_ (fun _=>rfl) ht
  have q0:=k0 _ rfl (by omega)
  rw[Nat.mul_one]at q0
  unfold B at q0
  rw[ha]at c1
  clear k0 ha ht
  go_enter Tryz.func136,Tryz.ntmps136
  go_wp2_with fail
  refine(must_yes _ _).mono ?_;rintro e w1 ⟨rfl,rfl⟩
  go_wp2_with fail
  go_ret
  exact⟨rfl,Below.refl _ _⟩
 ·have hd:decide (n<loc.l.length)=false:=decide_eq_false hlt
  rw[decide_eq_false hlt]
  simp only[need,Bool.false_eq_true,if_false]
  unfold ValP
  simp only
  go_enter Tryz.func136,Tryz.ntmps136
  go_wp2_with fail
  refine(must_no 2 2 rfl _).mono ?_;rintro e w1 ⟨rfl,rfl⟩
  unfold flt
  go_wp2_with fail
  exact⟨rfl,rfl,Below.refl _ _⟩
end
end Go.Proofs.YtomppgohoplemaaGreat
