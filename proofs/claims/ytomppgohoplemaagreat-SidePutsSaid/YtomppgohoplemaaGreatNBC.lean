import Derived.Test.YtomppgohoplemaaGreatNBA
import Derived.Test.YtomppgohoplemaaGreatNBB
set_option linter.unusedVariables false
namespace Go.Proofs.YtomppgohoplemaaGreat
open Go.RowKit
theorem hasSig_yes {m:MoL} {f:Nat} (h:hasSig m.g f=true):∃s,sigL m (f:Int)=some s∧s∈m.sigs.l∧sigOf m.g f=s.g∧f<m.imps.l.length+m.funcs.l.length:=by
 unfold hasSig at h
 simp only[Bool.and_eq_true,decide_eq_true_eq]at h
 obtain⟨h1,h2⟩:=h
 have ha:m.g.all=m.imps.l.length+m.funcs.l.length:=by simp[Mo.all,MoL.g]
 have hs:m.g.sigs.length=m.sigs.l.length:=by simp[MoL.g]
 rw[ha]at h1
 rw[hs]at h2
 have hn:mnumL m (f:Int)=some (sigN m.g f):=by unfold mnumL;rw[if_pos (by omega),Int.toNat_natCast]
 obtain⟨i1,i2⟩:=inB_iff.1 h2
 have hlt:(sigN m.g f).toNat<m.sigs.l.length:=by omega
 obtain⟨s,hs⟩:∃s,m.sigs.l[(sigN m.g f).toNat]?=some s:=⟨_,List.getElem?_eq_getElem hlt⟩
 refine⟨s,?_,List.mem_of_getElem? hs,?_,h1⟩
 ·unfold sigL
  rw[hn]
  show (if inB (sigN m.g f) m.sigs.l.length then m.sigs.l[(sigN m.g f).toNat]? else none)=_
  rw[h2,if_pos rfl,hs]
 ·unfold sigOf
  exact map_getD hs
theorem hasSig_no {m:MoL} {f:Nat} (h:hasSig m.g f=false) (hf:f<18446744073709551616) (hz:MoSz m):sigL m (IntKind.i64.wrap (f:Int))=none:=by
 have z1:=hz.imps;have z2:=hz.funcs
 have ha:m.g.all=m.imps.l.length+m.funcs.l.length:=by simp[Mo.all,MoL.g]
 have hs:m.g.sigs.length=m.sigs.l.length:=by simp[MoL.g]
 unfold hasSig at h
 rw[ha,hs]at h
 by_cases hlt:f<m.imps.l.length+m.funcs.l.length
 ·rw[decide_eq_true hlt,Bool.true_and]at h
  rw[IntWalk.i64_in _ (by omega)]
  have hn:mnumL m (f:Int)=some (sigN m.g f):=by unfold mnumL;rw[if_pos (by omega),Int.toNat_natCast]
  unfold sigL
  rw[hn]
  show (if inB (sigN m.g f) m.sigs.l.length then _ else none)=_
  rw[h]
  rfl
 ·have hw:¬(0≤IntKind.i64.wrap (f:Int)∧IntKind.i64.wrap (f:Int)<((m.imps.l.length+m.funcs.l.length:Nat):Int)):=by
   rw[IntKind.wrap_i64]
   omega
  unfold sigL mnumL
  rw[if_neg hw]
  rfl
theorem wrap64_range (n:Int):-9223372036854775808≤IntKind.i64.wrap n∧IntKind.i64.wrap n≤9223372036854775807:=by
 rw[IntKind.wrap_i64]
 omega
set_option maxRecDepth 100000 in
set_option maxHeartbeats 1600000 in
theorem ccall26 (K:KX) (vs vb:Value) (cs:List CB) (st:List UInt8) (x:XL) (w w0:World) (g:Nat) (m:MoL) (loc sp sr:Sl UInt8) (h:Hid (CK w K vs vb cs st)) (he:Hid (KE w0 K g m loc sp sr)) (hv:Hid (InvP (psOf cs st))) (hs:st.length≤10000000) (hcl:cs.length≤100000) (hxi:Hid x.x.In) (hb0:Hid (Below w0.heap.size w0 w)) (hz:Hid (MoSz m)) (hc:x.code=26) :
  Calls Tryz.prog 109 #[.pointer (some ⟨K.cb,0,none⟩),insV2 x] w (StP w K vs vb (callP ⟨m.g,loc.l,sp.l,sr.l⟩ (psOf cs st) x.x) (.bool true)):=by
 obtain⟨W,hW,hbw,hx,hsz⟩:=ins_box w x
 obtain⟨ig,hig⟩:∃ig,w.heap.size=ig:=⟨_,rfl⟩
 rw[hig]at hx
 have hkW:=hide (h.out.quiet hbw)
 have hnW:Hid (NW w W K.cb vs vb vs vb):=NW.of_below hbw
 have hbW0:=hide (hb0.out.trans (hbw.mono hb0.out.size))
 have hINS:insV2 x=.agg #[.int .i64 26,.int .u64 (x.a:Int),.int .u64 (x.b:Int),.int .i64 x.al,.slice x.l.at_ x.l.l.length x.l.cap]:=by unfold insV2;rw[hc]
 have hR:callP ⟨m.g,loc.l,sp.l,sr.l⟩ (psOf cs st) x.x=pop1 (psOf cs st) 0:=by unfold callP;rw[show x.x.code=26 from hc];rfl
 rw[hR,hINS]
 obtain⟨R,hRR⟩:∃R,(pop1 (psOf cs st) 0)=R:=⟨_,rfl⟩
 rw[hRR]
 have HR:=hide hRR
 rw[hc]at hx hW
 have d0:W.cell? ⟨ig,0,none⟩=some (.int .i64 26):=cell_blk hx 0
 have d1:W.cell? ⟨ig,1,none⟩=some (.int .u64 (x.a:Int)):=cell_blk hx 1
 have d2:W.cell? ⟨ig,2,none⟩=some (.int .u64 (x.b:Int)):=cell_blk hx 2
 have HX:=hide hx;have HW:=hide hW;have HIG:=hide hig;have HINS:=hide hINS
 have ha64:=hxi.out.a
 have hk1:=hkW
 have hn1:=hnW
 clear hW hx hig hbw hsz hR hINS hRR
 go_enter Tryz.func109,Tryz.ntmps109
 go_upto_region 1 with fail
 rw[HW.out,HIG.out]
 go_wp2_with fail
 have HP:=hide (cpop_any K vs vb cs st 0 W hk1 hv.out hs hcl)
 unfold pop1 at HR
 have hpk:=fun q (hq:popP (psOf cs st) 0=.ok q)=>popP_ok hq hv.out
 cases hq:popP (psOf cs st) 0 with
 | bad n =>
  rw[hq]at HP HR
  simp only at HP
  have hend:Hid (R=.bad n):=HR.out.symm
  clear hq hpk HR
  go_wp2_with fail
  refine HP.out.mono ?_;rintro e5 w5 ⟨rfl,h5⟩
  unfold flt
  go_wp2_with fail
  exact⟨rfl,StP.bad hend.out rfl ((NW.bad hn1.out h5.out))⟩
 | ok q =>
  obtain⟨i1,i2,i3⟩:=hpk q hq
  rw[hq]at HP HR
  simp only at HP
  replace HR:Hid (.ok q.1=R):=HR
  have HSL:q.1.st.length≤10000000:=Nat.le_trans i3 hs
  clear hq hpk i1 i2 i3
  go_wp2_with fail
  refine HP.out.mono ?_;rintro e5 w5 ⟨vs5,rfl,hk5,hn5,hbl5⟩
  have hnn:=hide (hn1.out.trans hn5.out)
  have HBL:=hide hbl5
  clear HP hbl5
  go_wp2_with fail
  go_ret
  exact StP.ok HR.out.symm rfl hk5.out hnn.out HBL.out
set_option maxRecDepth 100000 in
set_option maxHeartbeats 1600000 in
theorem ccall27 (K:KX) (vs vb:Value) (cs:List CB) (st:List UInt8) (x:XL) (w w0:World) (g:Nat) (m:MoL) (loc sp sr:Sl UInt8) (h:Hid (CK w K vs vb cs st)) (he:Hid (KE w0 K g m loc sp sr)) (hv:Hid (InvP (psOf cs st))) (hs:st.length≤10000000) (hcl:cs.length≤100000) (hxi:Hid x.x.In) (hb0:Hid (Below w0.heap.size w0 w)) (hz:Hid (MoSz m)) (hc:x.code=27) :
  Calls Tryz.prog 109 #[.pointer (some ⟨K.cb,0,none⟩),insV2 x] w (StP w K vs vb (callP ⟨m.g,loc.l,sp.l,sr.l⟩ (psOf cs st) x.x) (.bool true)):=by
 obtain⟨W,hW,hbw,hx,hsz⟩:=ins_box w x
 obtain⟨ig,hig⟩:∃ig,w.heap.size=ig:=⟨_,rfl⟩
 rw[hig]at hx
 have hkW:=hide (h.out.quiet hbw)
 have hnW:Hid (NW w W K.cb vs vb vs vb):=NW.of_below hbw
 have hbW0:=hide (hb0.out.trans (hbw.mono hb0.out.size))
 have hINS:insV2 x=.agg #[.int .i64 27,.int .u64 (x.a:Int),.int .u64 (x.b:Int),.int .i64 x.al,.slice x.l.at_ x.l.l.length x.l.cap]:=by unfold insV2;rw[hc]
 have hR:callP ⟨m.g,loc.l,sp.l,sr.l⟩ (psOf cs st) x.x=(pop1 (psOf cs st) 127).then fun s1=>(popP s1 0).then fun q=>(popP q.1 q.2).then fun q2=>.ok (pushP q2.1 [q2.2]):=by unfold callP;rw[show x.x.code=27 from hc];rfl
 rw[hR,hINS]
 obtain⟨R,hRR⟩:∃R,((pop1 (psOf cs st) 127).then fun s1=>(popP s1 0).then fun q=>(popP q.1 q.2).then fun q2=>.ok (pushP q2.1 [q2.2]))=R:=⟨_,rfl⟩
 rw[hRR]
 have HRO:=hide hRR
 rw[hc]at hx hW
 have d0:W.cell? ⟨ig,0,none⟩=some (.int .i64 27):=cell_blk hx 0
 have d1:W.cell? ⟨ig,1,none⟩=some (.int .u64 (x.a:Int)):=cell_blk hx 1
 have d2:W.cell? ⟨ig,2,none⟩=some (.int .u64 (x.b:Int)):=cell_blk hx 2
 have HX:=hide hx;have HW:=hide hW;have HIG:=hide hig;have HINS:=hide hINS
 have ha64:=hxi.out.a
 obtain⟨s0,hs0⟩:∃s0,psOf cs st=s0:=⟨_,rfl⟩
 have hst:s0.st=st:=by rw[←hs0];rfl
 have I0BL:Hid (s0.bl=cs.map CB.p):=by rw[←hs0];rfl
 rw[hs0]at hRR hv hR
 have I0:=hv
 subst hst
 unfold pop1 at hRR
 have HR:=hide hRR
 clear hW hx hig hbw hsz hR hINS hRR HRO hs0
 go_enter Tryz.func109,Tryz.ntmps109
 go_upto_region 1 with fail
 rw[HW.out,HIG.out]
 go_wp2_with fail
 have HP1:=hide (cpop_any K vs vb cs s0.st 127 W hkW (by rw[psOf_eq I0BL.out];exact I0.out) hs hcl)
 rw[psOf_eq I0BL.out]at HP1
 have hpk:=fun q (hq:popP s0 127=.ok q)=>popP_ok hq I0.out
 cases hq:popP s0 127 with
 | bad n =>
  rw[hq]at HP1 HR
  simp only at HP1
  have hend:Hid (R=.bad n):=HR.out.symm
  clear hq hpk HR
  go_wp2_with fail
  refine HP1.out.mono ?_;rintro e1 u1 ⟨rfl,h1⟩
  unfold flt
  go_wp2_with fail
  exact⟨rfl,StP.bad hend.out rfl ((NW.bad hnW.out h1.out))⟩
 | ok p1 =>
  obtain⟨i1,i2,i3⟩:=hpk p1 hq
  rw[hq]at HP1 HR
  simp only at HP1
  replace HR:Hid ((popP p1.1 0).then (fun q=>(popP q.1 q.2).then fun q2=>.ok (pushP q2.1 [q2.2]))=R):=HR
  have SL1:p1.1.st.length≤10000000:=Nat.le_trans i3 hs
  have I1:=hide i1
  clear hq hpk i1 i2 i3
  go_wp2_with fail
  refine HP1.out.mono ?_;rintro e1 u1 ⟨vs1,rfl,hk1,hn1,hbl1⟩
  have I1BL:=hide hbl1
  have hnn1:=hide (hnW.out.trans hn1.out)
  clear HP1 hbl1
  have HP2:=hide (cpop_any K vs1 vb cs p1.1.st 0 u1 hk1 (by rw[psOf_eq I1BL.out];exact I1.out) SL1 hcl)
  rw[psOf_eq I1BL.out]at HP2
  have hpk:=fun q (hq:popP p1.1 0=.ok q)=>popP_ok hq I1.out
  cases hq:popP p1.1 0 with
  | bad n =>
   rw[hq]at HP2 HR
   simp only at HP2
   have hend:Hid (R=.bad n):=HR.out.symm
   clear hq hpk HR
   go_wp2_with fail
   refine HP2.out.mono ?_;rintro e2 u2 ⟨rfl,h2⟩
   unfold flt
   go_wp2_with fail
   exact⟨rfl,StP.bad hend.out rfl ((NW.bad hnn1.out h2.out))⟩
  | ok p2 =>
   obtain⟨i1,i2,i3⟩:=hpk p2 hq
   rw[hq]at HP2 HR
   simp only at HP2
   replace HR:Hid ((popP p2.1 p2.2).then (fun q2=>.ok (pushP q2.1 [q2.2]))=R):=HR
   have SL2:p2.1.st.length≤10000000:=Nat.le_trans i3 SL1
   have I2:=hide i1
   clear hq hpk i1 i2 i3
   go_wp2_with fail
   refine HP2.out.mono ?_;rintro e2 u2 ⟨vs2,rfl,hk2,hn2,hbl2⟩
   have I2BL:=hide hbl2
   have hnn2:=hide (hnn1.out.trans hn2.out)
   clear HP2 hbl2
   have HP3:=hide (cpop_any K vs2 vb cs p2.1.st p2.2 u2 hk2 (by rw[psOf_eq I2BL.out];exact I2.out) SL2 hcl)
   rw[psOf_eq I2BL.out]at HP3
   have hpk:=fun q (hq:popP p2.1 p2.2=.ok q)=>popP_ok hq I2.out
   cases hq:popP p2.1 p2.2 with
   | bad n =>
    rw[hq]at HP3 HR
    simp only at HP3
    have hend:Hid (R=.bad n):=HR.out.symm
    clear hq hpk HR
    go_wp2_with fail
    refine HP3.out.mono ?_;rintro e3 u3 ⟨rfl,h3⟩
    unfold flt
    go_wp2_with fail
    exact⟨rfl,StP.bad hend.out rfl ((NW.bad hnn2.out h3.out))⟩
   | ok p3 =>
    obtain⟨i1,i2,i3⟩:=hpk p3 hq
    rw[hq]at HP3 HR
    simp only at HP3
    replace HR:Hid (.ok (pushP p3.1 [p3.2])=R):=HR
    have SL3:p3.1.st.length≤10000000:=Nat.le_trans i3 SL2
    have I3:=hide i1
    clear hq hpk i1 i2 i3
    go_wp2_with fail
    refine HP3.out.mono ?_;rintro e3 u3 ⟨vs3,rfl,hk3,hn3,hbl3⟩
    have I3BL:=hide hbl3
    have hnn3:=hide (hnn2.out.trans hn3.out)
    clear HP3 hbl3
    obtain⟨W7,g7,hW7,hg7,HPU⟩:=cpush1 K vs3 vb cs p3.1.st p3.2 u3 hk3 SL3
    go_wp2_with fail
    rw[hW7.out,hg7.out]
    refine HPU.out.mono ?_;rintro e7 w7 ⟨vs7,rfl,hk7,hn7⟩
    go_wp2_with fail
    go_ret
    exact StP.ok HR.out.symm rfl hk7.out (hnn3.out.trans hn7.out) I3BL.out
set_option maxRecDepth 100000 in
set_option maxHeartbeats 1600000 in
theorem ccall16 (K:KX) (vs vb:Value) (cs:List CB) (st:List UInt8) (x:XL) (w w0:World) (g:Nat) (m:MoL) (loc sp sr:Sl UInt8) (h:Hid (CK w K vs vb cs st)) (he:Hid (KE w0 K g m loc sp sr)) (hv:Hid (InvP (psOf cs st))) (hs:st.length≤10000000) (hcl:cs.length≤100000) (hxi:Hid x.x.In) (hb0:Hid (Below w0.heap.size w0 w)) (hz:Hid (MoSz m)) (hc:x.code=16) :
  Calls Tryz.prog 109 #[.pointer (some ⟨K.cb,0,none⟩),insV2 x] w (StP w K vs vb (callP ⟨m.g,loc.l,sp.l,sr.l⟩ (psOf cs st) x.x) (.bool true)):=by
 obtain⟨W,hW,hbw,hx,hsz⟩:=ins_box w x
 obtain⟨ig,hig⟩:∃ig,w.heap.size=ig:=⟨_,rfl⟩
 rw[hig]at hx
 have hkW:=hide (h.out.quiet hbw)
 have hnW:Hid (NW w W K.cb vs vb vs vb):=NW.of_below hbw
 have hbW0:=hide (hb0.out.trans (hbw.mono hb0.out.size))
 have hINS:insV2 x=.agg #[.int .i64 16,.int .u64 (x.a:Int),.int .u64 (x.b:Int),.int .i64 x.al,.slice x.l.at_ x.l.l.length x.l.cap]:=by unfold insV2;rw[hc]
 have hR:callP ⟨m.g,loc.l,sp.l,sr.l⟩ (psOf cs st) x.x=need (hasSig m.g x.a) 2 (applyP (psOf cs st) (sigOf m.g x.a).p (sigOf m.g x.a).r):=by unfold callP;rw[show x.x.code=16 from hc];rfl
 rw[hR,hINS]
 obtain⟨R,hRR⟩:∃R,(need (hasSig m.g x.a) 2 (applyP (psOf cs st) (sigOf m.g x.a).p (sigOf m.g x.a).r))=R:=⟨_,rfl⟩
 rw[hRR]
 have HR:=hide hRR
 rw[hc]at hx hW
 have d0:W.cell? ⟨ig,0,none⟩=some (.int .i64 16):=cell_blk hx 0
 have d1:W.cell? ⟨ig,1,none⟩=some (.int .u64 (x.a:Int)):=cell_blk hx 1
 have d2:W.cell? ⟨ig,2,none⟩=some (.int .u64 (x.b:Int)):=cell_blk hx 2
 have HX:=hide hx;have HW:=hide hW;have HIG:=hide hig;have HINS:=hide hINS
 have ha64:=hxi.out.a
 obtain⟨ec0,_,_,_⟩:=hkW.out.envc he.out
 have hM:=hide (he.out.mo.below hbW0.out)
 obtain⟨c0,_,_,c3,_,_,_,_,_,_⟩:=hM.out.cells
 have z1:=hz.out.imps;have z2:=hz.out.funcs;have z3:=hz.out.sigs
 have l1:=blk_lt HX.out;have l2:=blk_lt hM.out.blk;have l3:=hkW.out.size.2
 obtain⟨f1,f2⟩:=wrap64_range (x.a:Int)
 obtain⟨fi,hfi⟩:∃fi,IntKind.i64.wrap (x.a:Int)=fi:=⟨_,rfl⟩
 rw[hfi]at f1 f2
 have HC:=hide (fun (V:World) (hV:Below W.heap.size W V)=>msig_any g m fi V (hide (hM.out.below hV)) (by omega) (by omega) (by omega) f1 f2)
 clear hW hx hig hbw hsz hR hINS hRR
 cases hq:hasSig m.g x.a with
 | false =>
  have hno:=hasSig_no hq hxi.out.a hz.out
  rw[hfi]at hno
  rw[hno]at HC
  have hend:Hid (R=.bad 2):=by show _=_;rw[←HR.out,hq];rfl
  unfold sigV at HC
  simp only at HC
  clear HR hq hno
  go_enter Tryz.func109,Tryz.ntmps109
  go_upto_region 1 with fail
  rw[HW.out,HIG.out]
  go_wp2_with fail
  go_region_law (go_simp;go_at_call 21;(first
   | (refine(HC.out _ (by first|exact(Below.refl _ _).drew)).mono ?_;rintro e w5 ⟨rfl,h5⟩;have hb5:=hide ((Below.refl W.heap.size W).drew.trans (h5.out.mono (Nat.le_refl _))))
   | (refine(HC.out _ (by first|exact((Below.refl _ _).drew).alloc (Nat.le_refl _) _|exact((Below.refl _ _).alloc (Nat.le_refl _) _).drew)).mono ?_;rintro e w5 ⟨rfl,h5⟩;have hx5:=hide ((h5.out.block W.heap.size (blk_lt (by first|exact heap_alloc_new W.drew _|exact heap_alloc_new W _))).trans (by first|exact heap_alloc_new W.drew _|exact heap_alloc_new W _));have hb6:=hide ((((Below.refl W.heap.size W).alloc (Nat.le_refl _) _).drew).trans (h5.out.mono (Nat.le_of_lt (blk_lt (heap_alloc_new W _)))));have y0:=cell_blk hx5.out 0;have y1:=cell_blk hx5.out 1;have z0:=frozen_blk hx5.out 0;have z1:=frozen_blk hx5.out 1;simp at y0 y1)))
  all_goals first
   | (
     have hb7:=hb5
     obtain⟨U,hU,hbU,hxU,hsU⟩:=box_new w5 #[.slice none 0 0,.slice none 0 0] 87
     obtain⟨lg,hlg⟩:∃lg,w5.heap.size=lg:=⟨_,rfl⟩
     rw[hlg]at hxU
     have HUB:Hid (Below W.heap.size W U):=hb7.out.trans (hbU.mono hb7.out.size)
     have HLL:W.heap.size≤lg:=by rw[←hlg];exact hb7.out.size
     rw[hU,hlg]
     have HUX:=hide hxU
     clear hU hbU hxU hsU hb7 hb5 h5 hlg)
   | (
     obtain⟨U,hU⟩:∃U,(w5.setCell ⟨W.heap.size,0,none⟩ (.slice none 0 0)).setCell ⟨W.heap.size,1,none⟩ (.slice none 0 0)=U:=⟨_,rfl⟩
     have hxU:=setCell_blk (setCell_blk hx5.out 0 (.slice none 0 0)) 1 (.slice none 0 0)
     have hOU:Only [W.heap.size] w5 U:=by rw[←hU];exact(Only.setCell w5 (p:=⟨W.heap.size,0,none⟩) (by simp) _).trans (Only.setCell _ (p:=⟨W.heap.size,1,none⟩) (by simp) _)
     rw[hU]at hxU
     have HUB:Hid (Below W.heap.size W U):=below_new hb6.out hOU (Nat.le_refl _)
     obtain⟨lg,hlg⟩:∃lg,W.heap.size=lg:=⟨_,rfl⟩
     have HLL:W.heap.size≤lg:=Nat.le_of_eq hlg
     rw[hU]
     simp only[hlg]
     have HUX:Hid (U.heap[lg]?=some (.cells #[.slice none 0 0,.slice none 0 0] 87 (0,0))):=by rw[←hlg];exact hxU
     clear hU hOU hxU y0 y1 z0 z1 hx5 hb6 h5 hlg)
  all_goals
   clear HC
   go_wp2_with fail
   refine(must_no 2 2 rfl _).mono ?_;rintro e7 w7 ⟨rfl,rfl⟩
   unfold flt
   go_wp2_with fail
   exact⟨rfl,StP.bad hend.out rfl (Bad.of (hnW.out.trans (NW.of_below HUB.out)))⟩
 | true =>
  obtain⟨s,hs1,hs2,hs3,hs4⟩:=hasSig_yes hq
  rw[←hfi,IntWalk.i64_in _ (by omega),hs1]at HC
  rw[IntWalk.i64_in _ (by omega)]at hfi
  subst hfi
  have hw64:IntKind.i64.wrap (x.a:Int)=(x.a:Int):=IntWalk.i64_in _ (by omega)
  replace HR:Hid (applyP (psOf cs st) s.p.l s.r.l=R):=by show _=_;rw[←HR.out,hq,hs3];rfl
  unfold sigV at HC
  simp only at HC
  have hsz:=hz.out.sig s hs2
  obtain⟨rp,rr⟩:=he.out.mo.in_.sig s hs2
  have HRP:=hide rp;have HRR:=hide rr
  unfold Sl.val at HC
  clear hq hs1 hs2 hs3 hs4 rp rr
  go_enter Tryz.func109,Tryz.ntmps109
  go_upto_region 1 with fail
  rw[HW.out,HIG.out]
  go_wp2_with fail
  go_region_law (go_simp;go_at_call 21;(first
   | (refine(HC.out _ (by first|exact(Below.refl _ _).drew)).mono ?_;rintro e w5 ⟨rfl,h5⟩;have hb5:=hide ((Below.refl W.heap.size W).drew.trans (h5.out.mono (Nat.le_refl _))))
   | (refine(HC.out _ (by first|exact((Below.refl _ _).drew).alloc (Nat.le_refl _) _|exact((Below.refl _ _).alloc (Nat.le_refl _) _).drew)).mono ?_;rintro e w5 ⟨rfl,h5⟩;have hx5:=hide ((h5.out.block W.heap.size (blk_lt (by first|exact heap_alloc_new W.drew _|exact heap_alloc_new W _))).trans (by first|exact heap_alloc_new W.drew _|exact heap_alloc_new W _));have hb6:=hide ((((Below.refl W.heap.size W).alloc (Nat.le_refl _) _).drew).trans (h5.out.mono (Nat.le_of_lt (blk_lt (heap_alloc_new W _)))));have y0:=cell_blk hx5.out 0;have y1:=cell_blk hx5.out 1;have z0:=frozen_blk hx5.out 0;have z1:=frozen_blk hx5.out 1;simp at y0 y1)))
  all_goals first
   | (
     have hb7:=hb5
     obtain⟨U,hU,hbU,hxU,hsU⟩:=box_new w5 #[.slice s.p.at_ s.p.l.length s.p.cap,.slice s.r.at_ s.r.l.length s.r.cap] 87
     obtain⟨lg,hlg⟩:∃lg,w5.heap.size=lg:=⟨_,rfl⟩
     rw[hlg]at hxU
     have HUB:Hid (Below W.heap.size W U):=hb7.out.trans (hbU.mono hb7.out.size)
     have HLL:W.heap.size≤lg:=by rw[←hlg];exact hb7.out.size
     rw[hU,hlg]
     have HUX:=hide hxU
     clear hU hbU hxU hsU hb7 hb5 h5 hlg)
   | (
     obtain⟨U,hU⟩:∃U,(w5.setCell ⟨W.heap.size,0,none⟩ (.slice s.p.at_ s.p.l.length s.p.cap)).setCell ⟨W.heap.size,1,none⟩ (.slice s.r.at_ s.r.l.length s.r.cap)=U:=⟨_,rfl⟩
     have hxU:=setCell_blk (setCell_blk hx5.out 0 (.slice s.p.at_ s.p.l.length s.p.cap)) 1 (.slice s.r.at_ s.r.l.length s.r.cap)
     have hOU:Only [W.heap.size] w5 U:=by rw[←hU];exact(Only.setCell w5 (p:=⟨W.heap.size,0,none⟩) (by simp) _).trans (Only.setCell _ (p:=⟨W.heap.size,1,none⟩) (by simp) _)
     rw[hU]at hxU
     have HUB:Hid (Below W.heap.size W U):=below_new hb6.out hOU (Nat.le_refl _)
     obtain⟨lg,hlg⟩:∃lg,W.heap.size=lg:=⟨_,rfl⟩
     have HLL:W.heap.size≤lg:=Nat.le_of_eq hlg
     rw[hU]
     simp only[hlg]
     have HUX:Hid (U.heap[lg]?=some (.cells #[.slice s.p.at_ s.p.l.length s.p.cap,.slice s.r.at_ s.r.l.length s.r.cap] 87 (0,0))):=by rw[←hlg];exact hxU
     clear hU hOU hxU y0 y1 z0 z1 hx5 hb6 h5 hlg)
  all_goals
   clear HC
   have hk1:=hide (hkW.out.quiet HUB.out)
   have hn1:=hide (hnW.out.trans (NW.of_below HUB.out))
   have hbU0:=hide (hbW0.out.trans (HUB.out.mono hbW0.out.size))
   have u0:U.cell? ⟨lg,0,none⟩=some (.slice s.p.at_ s.p.l.length s.p.cap):=cell_blk HUX.out 0
   have u1:U.cell? ⟨lg,1,none⟩=some (.slice s.r.at_ s.r.l.length s.r.cap):=cell_blk HUX.out 1
   go_wp2_with fail
   refine(must_yes _ _).mono ?_;rintro e7 w7 ⟨rfl,rfl⟩
   have hrp:=hide (hk1.out.res_env he.out.bs he.out.far hbU0.out HRP.out)
   have hrr:=hide (hk1.out.res_env he.out.bs he.out.far hbU0.out HRR.out)
   have HA:=hide (capply_any K vs vb cs st s.p s.r U hk1 hrp hrr hv hs hcl (by omega) (by omega))
   cases hq:applyP (psOf cs st) s.p.l s.r.l with
   | bad n =>
    rw[hq]at HA HR
    unfold StQ at HA
    simp only at HA
    have hend:Hid (R=.bad n):=HR.out.symm
    clear hq HR
    go_wp2_with fail
    refine HA.out.mono ?_;rintro e6 w6 ⟨rfl,h6⟩
    unfold flt
    go_wp2_with fail
    exact⟨rfl,StP.bad hend.out rfl ((NW.bad hn1.out h6.out))⟩
   | ok s2 =>
    rw[hq]at HA HR
    unfold StQ at HA
    simp only at HA
    have hend:Hid (R=.ok s2):=HR.out.symm
    clear hq HR
    go_wp2_with fail
    refine HA.out.mono ?_;rintro e6 w6 ⟨vs6,rfl,hk6,hn6,hbl6⟩
    go_wp2_with fail
    go_ret
    exact StP.ok hend.out rfl hk6.out (hn1.out.trans hn6.out) hbl6.out
set_option maxRecDepth 100000 in
set_option maxHeartbeats 1600000 in
theorem ccall17 (K:KX) (vs vb:Value) (cs:List CB) (st:List UInt8) (x:XL) (w w0:World) (g:Nat) (m:MoL) (loc sp sr:Sl UInt8) (h:Hid (CK w K vs vb cs st)) (he:Hid (KE w0 K g m loc sp sr)) (hv:Hid (InvP (psOf cs st))) (hs:st.length≤10000000) (hcl:cs.length≤100000) (hxi:Hid x.x.In) (hb0:Hid (Below w0.heap.size w0 w)) (hz:Hid (MoSz m)) (hc:x.code=17) :
  Calls Tryz.prog 109 #[.pointer (some ⟨K.cb,0,none⟩),insV2 x] w (StP w K vs vb (callP ⟨m.g,loc.l,sp.l,sr.l⟩ (psOf cs st) x.x) (.bool true)):=by
 obtain⟨W,hW,hbw,hx,hsz⟩:=ins_box w x
 obtain⟨ig,hig⟩:∃ig,w.heap.size=ig:=⟨_,rfl⟩
 rw[hig]at hx
 have hkW:=hide (h.out.quiet hbw)
 have hnW:Hid (NW w W K.cb vs vb vs vb):=NW.of_below hbw
 have hbW0:=hide (hb0.out.trans (hbw.mono hb0.out.size))
 have hINS:insV2 x=.agg #[.int .i64 17,.int .u64 (x.a:Int),.int .u64 (x.b:Int),.int .i64 x.al,.slice x.l.at_ x.l.l.length x.l.cap]:=by unfold insV2;rw[hc]
 have hR:callP ⟨m.g,loc.l,sp.l,sr.l⟩ (psOf cs st) x.x=need (decide (x.a<m.g.sigs.length)&&(x.b==0&&decide (0≤m.g.table))) 2 ((pop1 (psOf cs st) 127).then fun s1=>applyP s1 (m.g.sigs.getD x.a noSg).p (m.g.sigs.getD x.a noSg).r):=by unfold callP;rw[show x.x.code=17 from hc];rfl
 rw[hR,hINS]
 obtain⟨R,hRR⟩:∃R,(need (decide (x.a<m.g.sigs.length)&&(x.b==0&&decide (0≤m.g.table))) 2 ((pop1 (psOf cs st) 127).then fun s1=>applyP s1 (m.g.sigs.getD x.a noSg).p (m.g.sigs.getD x.a noSg).r))=R:=⟨_,rfl⟩
 rw[hRR]
 have HR:=hide hRR
 rw[hc]at hx hW
 have d0:W.cell? ⟨ig,0,none⟩=some (.int .i64 17):=cell_blk hx 0
 have d1:W.cell? ⟨ig,1,none⟩=some (.int .u64 (x.a:Int)):=cell_blk hx 1
 have d2:W.cell? ⟨ig,2,none⟩=some (.int .u64 (x.b:Int)):=cell_blk hx 2
 have HX:=hide hx;have HW:=hide hW;have HIG:=hide hig;have HINS:=hide hINS
 have ha64:=hxi.out.a
 obtain⟨ec0,_,_,_⟩:=hkW.out.envc he.out
 have hM:=hide (he.out.mo.below hbW0.out)
 obtain⟨c0,_,_,c3,_,_,_,_,_,_⟩:=hM.out.cells
 have z1:=hz.out.imps;have z2:=hz.out.funcs;have z3:=hz.out.sigs
 have C0:=fun k:ExtW W=>k.cell ec0
 have D1:=fun k:ExtW W=>k.cell d1
 have D2:=fun k:ExtW W=>k.cell d2
 have M0:=fun k:ExtW W=>k.cell c0
 have M3:=fun k:ExtW W=>k.cell c3
 have l1:=blk_lt HX.out;have l2:=blk_lt hM.out.blk;have l3:=hkW.out.size.2
 obtain⟨lt1,lt2⟩:=hM.out.in_.table
 clear hW hx hig hbw hsz hR hINS hRR
 replace HR:Hid ((need (decide (x.a<m.sigs.l.length)&&(x.b==0&&decide (0≤m.table))) 2 ((pop1 (psOf cs st) 127).then fun s1=>applyP s1 (m.g.sigs.getD x.a noSg).p (m.g.sigs.getD x.a noSg).r))=R):=by show _=_;rw[←HR.out,show m.g.sigs.length=m.sigs.l.length from by simp[MoL.g]];rfl
 by_cases ha:x.a<m.sigs.l.length
 ·have ta:decide (x.a<m.sigs.l.length)=true:=decide_eq_true ha
  by_cases hb:x.b=0
  ·have tb:((x.b:Int)==0)=true:=by simp[hb]
   have tb2:(x.b==0)=true:=by simp[hb]
   by_cases hc2:0≤m.table
   ·have tc:decide (0≤m.table)=true:=decide_eq_true hc2
    obtain⟨s,hs⟩:∃s,m.sigs.l[x.a]?=some s:=⟨_,List.getElem?_eq_getElem ha⟩
    have hgs:m.g.sigs.getD x.a noSg=s.g:=map_getD hs
    replace HR:Hid (((pop1 (psOf cs st) 127).then fun s1=>applyP s1 s.p.l s.r.l)=R):=by show _=_;rw[←HR.out,ta,tb2,tc,hgs];rfl
    have hsz:=hz.out.sig s (List.mem_of_getElem? hs)
    obtain⟨rp,rr⟩:=he.out.mo.in_.sig s (List.mem_of_getElem? hs)
    have HRP:=hide rp;have HRR:=hide rr
    have HS:=hide hs
    clear hb tb2 hgs hs rp rr
    go_enter Tryz.func109,Tryz.ntmps109
    go_upto_region 1 with fail
    rw[HW.out,HIG.out]
    go_upto_region 8 with fail
    refine wp_region_ext_last (l:=[_,_,_,_,_,_,_,_,_,_,_,_,_,_,_,_,_,_,_,_,_,_,_,_,_,_,_,_,_]) (o:=_) (by kernel_rfl) (by kernel_rfl) (by kernel_rfl) (by kernel_rfl) ?_
    repeat (go_big_quiet_step (fail))
    refine wpQuiet_nil ?_
    intro k
    go_wp2_with fail
    refine(must_yes _ _).mono ?_;rintro e7 w7 ⟨rfl,rfl⟩
    have hk1:=hide (hkW.out.quiet k.b)
    have hn1:=hide (hnW.out.trans (NW.of_below k.b))
    have HKB:=hide (hbW0.out.trans (k.b.mono hbW0.out.size))
    clear C0 D1 D2 M0 M3 ec0 c0 c3 d0 d1 d2 ta tb tc
    have hxk:ig≠K.cb:=by have:=h.out.size.2;have:=HIG.out;omega
    have hxv:vs.ownBlock≠some ig:=fun e=>by have:=own_lt h.out.os ig e;have:=HIG.out;omega
    have hxb:vb.ownBlock≠some ig:=fun e=>by have:=own_lt h.out.ob ig e;have:=HIG.out;omega
    have HX1:=hide ((k.b.block ig (blk_lt HX.out)).trans HX.out)
    have HP:=hide (cpop_any K vs vb cs st 127 k.w hk1 hv.out hs hcl)
    unfold pop1 at HR
    have hpk:=fun q (hq:popP (psOf cs st) 127=.ok q)=>popP_ok hq hv.out
    cases hq:popP (psOf cs st) 127 with
    | bad n =>
     rw[hq]at HP HR
     simp only at HP
     have hend:Hid (R=.bad n):=HR.out.symm
     clear hq hpk HR
     go_wp2_with fail
     refine HP.out.mono ?_;rintro e5 w5 ⟨rfl,h5⟩
     unfold flt
     go_wp2_with fail
     exact⟨rfl,StP.bad hend.out rfl ((NW.bad hn1.out h5.out))⟩
    | ok q =>
     obtain⟨i1,i2,i3⟩:=hpk q hq
     rw[hq]at HP HR
     simp only at HP
     replace HR:Hid ((applyP q.1 s.p.l s.r.l)=R):=HR
     have HSL:q.1.st.length≤10000000:=Nat.le_trans i3 hs
     have I1:=hide i1
     clear hq hpk i1 i2 i3
     go_wp2_with fail
     refine HP.out.mono ?_;rintro e5 w5 ⟨vs5,rfl,hk5,hn5,hbl5⟩
     have hnn:=hide (hn1.out.trans hn5.out)
     have HBL:=hide hbl5
     clear HP hbl5
     have hbw5:=hide (HKB.out.trans (NW.belowB hn5.out hk1.out |>.mono he.out.bs))
     have hM5:=hide (he.out.mo.below hbw5.out)
     obtain⟨c0,_,_,_,_,_,_,_,_,_⟩:=hM5.out.cells
     obtain⟨ec0,_,_,_⟩:=hk5.out.envc he.out
     have hx5:=(hn5.out.fresh (blk_lt HX1.out) hxk hxv hxb).1.trans HX1.out
     have d1:w5.cell? ⟨ig,1,none⟩=some (.int .u64 (x.a:Int)):=cell_blk hx5 1
     obtain⟨ad,hA,_,k0,kj⟩:=hM5.out.in_.sigs.at_ (fun _=>rfl) HS.out
     have q0:w5.cell? (ad.add (x.a*2))=some (.slice s.p.at_ s.p.l.length s.p.cap):=k0 _ rfl (by omega)
     have q1:w5.cell? ⟨(ad.add (x.a*2)).block,(ad.add (x.a*2)).off+1,none⟩=some (.slice s.r.at_ s.r.l.length s.r.cap):=kj 1 (by omega) (by omega) _ rfl
     rw[hA]at c0
     have C0:=fun k:ExtW w5=>k.cell ec0
     have D1:=fun k:ExtW w5=>k.cell d1
     have M0:=fun k:ExtW w5=>k.cell c0
     have Q0:=fun k:ExtW w5=>k.cell q0
     have Q1:=fun k:ExtW w5=>k.cell q1
     have psb:=hide (psOf_eq HBL.out)
     clear k0 kj hA hx5 c0 ec0 d1 q0 q1
     go_upto_region 10 with fail
     refine wp_region_ext_last (l:=[_,_,_,_,_,_,_,_,_,_,_,_,_]) (o:=_) (by kernel_rfl) (by kernel_rfl) (by kernel_rfl) (by kernel_rfl) ?_
     repeat (go_big_quiet_step (fail))
     refine wpQuiet_nil ?_
     intro k
     go_wp2_with fail
     have hk2:=hide (hk5.out.quiet k.b)
     replace hn1:=hide (hnn.out.trans (NW.of_below k.b))
     have hb2:=hide (hbw5.out.trans (k.b.mono hbw5.out.size))
     have hrp:=hide (hk2.out.res_env he.out.bs he.out.far hb2.out HRP.out)
     have hrr:=hide (hk2.out.res_env he.out.bs he.out.far hb2.out HRR.out)
     have HA:=hide (capply_any K vs5 vb cs q.1.st s.p s.r k.w hk2 hrp hrr (by rw[psb.out];exact I1) HSL hcl (by omega) (by omega))
     rw[psb.out]at HA
     clear C0 D1 M0 Q0 Q1
     cases hq:applyP q.1 s.p.l s.r.l with
     | bad n =>
      rw[hq]at HA HR
      unfold StQ at HA
      simp only at HA
      have hend:Hid (R=.bad n):=HR.out.symm
      clear hq HR
      go_wp2_with fail
      refine HA.out.mono ?_;rintro e6 w6 ⟨rfl,h6⟩
      unfold flt
      go_wp2_with fail
      exact⟨rfl,StP.bad hend.out rfl ((NW.bad hn1.out h6.out))⟩
     | ok s2 =>
      rw[hq]at HA HR
      unfold StQ at HA
      simp only at HA
      have hend:Hid (R=.ok s2):=HR.out.symm
      clear hq HR
      go_wp2_with fail
      refine HA.out.mono ?_;rintro e6 w6 ⟨vs6,rfl,hk6,hn6,hbl6⟩
      go_wp2_with fail
      go_ret
      exact StP.ok hend.out rfl hk6.out (hn1.out.trans hn6.out) hbl6.out
   ·have tc:decide (0≤m.table)=false:=decide_eq_false hc2
    have hend:Hid (R=.bad 2):=by show _=_;rw[←HR.out,ta,tb2,tc];rfl
    clear hb tb2 HR
    go_enter Tryz.func109,Tryz.ntmps109
    go_upto_region 1 with fail
    rw[HW.out,HIG.out]
    go_upto_region 8 with fail
    refine wp_region_ext_last (l:=[_,_,_,_,_,_,_,_,_,_,_,_,_,_,_,_,_,_,_,_,_,_,_,_,_,_,_,_,_]) (o:=_) (by kernel_rfl) (by kernel_rfl) (by kernel_rfl) (by kernel_rfl) ?_
    repeat (go_big_quiet_step (fail))
    refine wpQuiet_nil ?_
    intro k
    go_wp2_with fail
    refine(must_no 2 2 rfl _).mono ?_;rintro e7 w7 ⟨rfl,rfl⟩
    unfold flt
    go_wp2_with fail
    exact⟨rfl,StP.bad hend.out rfl (Bad.of (hnW.out.trans (NW.of_below k.b)))⟩
  ·have tb:((x.b:Int)==0)=false:=by simp;omega
   have tb2:(x.b==0)=false:=by simp[hb]
   have hend:Hid (R=.bad 2):=by show _=_;rw[←HR.out,ta,tb2];rfl
   clear hb tb2 HR
   go_enter Tryz.func109,Tryz.ntmps109
   go_upto_region 1 with fail
   rw[HW.out,HIG.out]
   go_upto_region 8 with fail
   refine wp_region_ext_last (l:=[_,_,_,_,_,_,_,_,_,_,_,_,_,_,_,_,_,_,_,_,_,_,_,_,_,_,_,_,_]) (o:=_) (by kernel_rfl) (by kernel_rfl) (by kernel_rfl) (by kernel_rfl) ?_
   repeat (go_big_quiet_step (fail))
   refine wpQuiet_nil ?_
   intro k
   go_wp2_with fail
   refine(must_no 2 2 rfl _).mono ?_;rintro e7 w7 ⟨rfl,rfl⟩
   unfold flt
   go_wp2_with fail
   exact⟨rfl,StP.bad hend.out rfl (Bad.of (hnW.out.trans (NW.of_below k.b)))⟩
 ·have ta:decide (x.a<m.sigs.l.length)=false:=decide_eq_false ha
  have hend:Hid (R=.bad 2):=by show _=_;rw[←HR.out,ta];rfl
  clear HR
  go_enter Tryz.func109,Tryz.ntmps109
  go_upto_region 1 with fail
  rw[HW.out,HIG.out]
  go_upto_region 8 with fail
  refine wp_region_ext_last (l:=[_,_,_,_,_,_,_,_,_,_,_,_,_,_,_,_,_,_,_,_,_,_,_,_,_,_,_,_,_]) (o:=_) (by kernel_rfl) (by kernel_rfl) (by kernel_rfl) (by kernel_rfl) ?_
  repeat (go_big_quiet_step (fail))
  refine wpQuiet_nil ?_
  intro k
  go_wp2_with fail
  refine(must_no 2 2 rfl _).mono ?_;rintro e7 w7 ⟨rfl,rfl⟩
  unfold flt
  go_wp2_with fail
  exact⟨rfl,StP.bad hend.out rfl (Bad.of (hnW.out.trans (NW.of_below k.b)))⟩
set_option maxRecDepth 100000 in
set_option maxHeartbeats 1600000 in
theorem ccall_no (K:KX) (vs vb:Value) (cs:List CB) (st:List UInt8) (x:XL) (w:World) (h:Hid (CK w K vs vb cs st)) (hc:callC x.code=false) :
  Calls Tryz.prog 109 #[.pointer (some ⟨K.cb,0,none⟩),insV2 x] w (fun e w'=>e=.returned (.bool false)∧Hid (Below w.heap.size w w')):=by
 obtain⟨W,hW,hbw,hx,hsz⟩:=ins_box w x
 obtain⟨ig,hig⟩:∃ig,w.heap.size=ig:=⟨_,rfl⟩
 rw[hig]at hx
 have d0:W.cell? ⟨ig,0,none⟩=some (.int .i64 x.code):=cell_blk hx 0
 have HX:=hide hx;have HW:=hide hW;have HIG:=hide hig;have HBW:=hide hbw
 unfold callC at hc
 simp only[Bool.or_eq_false_iff]at hc
 obtain⟨t16,t17,t26,t27⟩:=hc
 unfold insV2
 clear hW hx hig hbw hsz
 go_enter Tryz.func109,Tryz.ntmps109
 go_upto_region 1 with fail
 rw[HW.out,HIG.out]
 go_wp2_with fail
 go_ret
 exact⟨rfl,HBW.out⟩
theorem ccall_any (K:KX) (vs vb:Value) (cs:List CB) (st:List UInt8) (x:XL) (w w0:World) (g:Nat) (m:MoL) (loc sp sr:Sl UInt8) (h:Hid (CK w K vs vb cs st)) (he:Hid (KE w0 K g m loc sp sr)) (hv:Hid (InvP (psOf cs st))) (hs:st.length≤10000000) (hcl:cs.length≤100000) (hxi:Hid x.x.In) (hb0:Hid (Below w0.heap.size w0 w)) (hz:Hid (MoSz m)) (hc:callC x.code=true) :
  Calls Tryz.prog 109 #[.pointer (some ⟨K.cb,0,none⟩),insV2 x] w (StP w K vs vb (callP ⟨m.g,loc.l,sp.l,sr.l⟩ (psOf cs st) x.x) (.bool true)):=by
 unfold callC at hc
 simp only[Bool.or_eq_true,beq_iff_eq]at hc
 rcases hc with hc|hc|hc|hc
 ·exact ccall16 K vs vb cs st x w w0 g m loc sp sr h he hv hs hcl hxi hb0 hz hc
 ·exact ccall17 K vs vb cs st x w w0 g m loc sp sr h he hv hs hcl hxi hb0 hz hc
 ·exact ccall26 K vs vb cs st x w w0 g m loc sp sr h he hv hs hcl hxi hb0 hz hc
 ·exact ccall27 K vs vb cs st x w w0 g m loc sp sr h he hv hs hcl hxi hb0 hz hc
end Go.Proofs.YtomppgohoplemaaGreat
