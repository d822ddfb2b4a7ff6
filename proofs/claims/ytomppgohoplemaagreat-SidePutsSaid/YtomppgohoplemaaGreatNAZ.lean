import Derived.Test.YtomppgohoplemaaGreatNAY
set_option linter.unusedVariables false
namespace Go.Proofs.YtomppgohoplemaaGreat
open Go.RowKit
set_option maxRecDepth 100000 in
set_option maxHeartbeats 1600000 in
theorem cctrl0 (K:KX) (vs vb:Value) (cs:List CB) (st:List UInt8) (x:XL) (w w0:World) (v:PE) (sr:Sl UInt8) (h:Hid (CK w K vs vb cs st)) (hv:Hid (InvP (psOf cs st))) (hs:st.length≤10000000) (hcl:cs.length≤100000) (hxi:Hid x.x.In) (hlab:Hid (Row w0 1 uD x.l)) (hb0:Hid (Below w0.heap.size w0 w)) (hbs:w0.heap.size≤K.bs) (hfar:∀q,K.far=some q→w0.heap.size≤q) (hll:x.l.l.length≤1000) (hsr:Hid (Row w0 1 bD sr)) (hvr:v.r=sr.l) (hsl:sr.l.length≤1000) (hk3:K.c3=.slice sr.at_ sr.l.length sr.cap) (hc:x.code=0) :
  Calls Tryz.prog 107 #[.pointer (some ⟨K.cb,0,none⟩),insV2 x] w (StP w K vs vb (controlP v (psOf cs st) x.x) (.bool true)):=by
 obtain⟨W,hW,hbw,hx,hsz⟩:=ins_box w x
 obtain⟨ig,hig⟩:∃ig,w.heap.size=ig:=⟨_,rfl⟩
 rw[hig]at hx
 have hkW:=hide (h.out.quiet hbw)
 have hnW:Hid (NW w W K.cb vs vb vs vb):=NW.of_below hbw
 have hbW0:=hide (hb0.out.trans (hbw.mono hb0.out.size))
 have hINS:insV2 x=.agg #[.int .i64 0,.int .u64 (x.a:Int),.int .u64 (x.b:Int),.int .i64 x.al,.slice x.l.at_ x.l.l.length x.l.cap]:=by unfold insV2;rw[hc]
 have hR:controlP v (psOf cs st) x.x=.ok (killP (psOf cs st)):=by unfold controlP;rw[show x.x.code=0 from hc];rfl
 rw[hR,hINS]
 rw[hc]at hx hW
 have d0:W.cell? ⟨ig,0,none⟩=some (.int .i64 0):=cell_blk hx 0
 have d1:W.cell? ⟨ig,1,none⟩=some (.int .u64 (x.a:Int)):=cell_blk hx 1
 have d2:W.cell? ⟨ig,2,none⟩=some (.int .u64 (x.b:Int)):=cell_blk hx 2
 have d3:W.cell? ⟨ig,3,none⟩=some (.int .i64 x.al):=cell_blk hx 3
 have d4:W.cell? ⟨ig,4,none⟩=some (.slice x.l.at_ x.l.l.length x.l.cap):=cell_blk hx 4
 have HX:=hide hx;have HW:=hide hW;have HIG:=hide hig;have HINS:=hide hINS
 have hxk:ig≠K.cb:=by have:=h.out.size.2;omega
 have hxv:vs.ownBlock≠some ig:=fun e=>by have:=own_lt h.out.os ig e;omega
 have hxb:vb.ownBlock≠some ig:=fun e=>by have:=own_lt h.out.ob ig e;omega
 have ha64:=hxi.out.a
 have HP:=hide (ckill_any K vs vb cs st W hkW hv hs hcl)
 unfold StP at HP
 simp only at HP
 clear hW hx hig hbw hsz hR hINS
 go_enter Tryz.func107,Tryz.ntmps107
 go_upto_region 1 with fail
 rw[HW.out,HIG.out]
 go_wp2_with fail
 refine HP.out.mono ?_;rintro e w5 ⟨vs5,vb5,cs5,rfl,hk5,hn5,hb5⟩
 go_wp2_with fail
 go_ret
 exact⟨vs5,vb5,cs5,rfl,hk5,hnW.out.trans hn5.out,hb5⟩
set_option maxRecDepth 100000 in
set_option maxHeartbeats 1600000 in
theorem cctrl2 (K:KX) (vs vb:Value) (cs:List CB) (st:List UInt8) (x:XL) (w w0:World) (v:PE) (sr:Sl UInt8) (h:Hid (CK w K vs vb cs st)) (hv:Hid (InvP (psOf cs st))) (hs:st.length≤10000000) (hcl:cs.length≤100000) (hxi:Hid x.x.In) (hlab:Hid (Row w0 1 uD x.l)) (hb0:Hid (Below w0.heap.size w0 w)) (hbs:w0.heap.size≤K.bs) (hfar:∀q,K.far=some q→w0.heap.size≤q) (hll:x.l.l.length≤1000) (hsr:Hid (Row w0 1 bD sr)) (hvr:v.r=sr.l) (hsl:sr.l.length≤1000) (hk3:K.c3=.slice sr.at_ sr.l.length sr.cap) (hc:x.code=2) :
  Calls Tryz.prog 107 #[.pointer (some ⟨K.cb,0,none⟩),insV2 x] w (StP w K vs vb (controlP v (psOf cs st) x.x) (.bool true)):=by
 obtain⟨W,hW,hbw,hx,hsz⟩:=ins_box w x
 obtain⟨ig,hig⟩:∃ig,w.heap.size=ig:=⟨_,rfl⟩
 rw[hig]at hx
 have hkW:=hide (h.out.quiet hbw)
 have hnW:Hid (NW w W K.cb vs vb vs vb):=NW.of_below hbw
 have hbW0:=hide (hb0.out.trans (hbw.mono hb0.out.size))
 have hINS:insV2 x=.agg #[.int .i64 2,.int .u64 (x.a:Int),.int .u64 (x.b:Int),.int .i64 x.al,.slice x.l.at_ x.l.l.length x.l.cap]:=by unfold insV2;rw[hc]
 have hR:controlP v (psOf cs st) x.x=.ok (openP (psOf cs st) 2 x.a):=by unfold controlP;rw[show x.x.code=2 from hc];rfl
 rw[hR,hINS]
 rw[hc]at hx hW
 have d0:W.cell? ⟨ig,0,none⟩=some (.int .i64 2):=cell_blk hx 0
 have d1:W.cell? ⟨ig,1,none⟩=some (.int .u64 (x.a:Int)):=cell_blk hx 1
 have d2:W.cell? ⟨ig,2,none⟩=some (.int .u64 (x.b:Int)):=cell_blk hx 2
 have d3:W.cell? ⟨ig,3,none⟩=some (.int .i64 x.al):=cell_blk hx 3
 have d4:W.cell? ⟨ig,4,none⟩=some (.slice x.l.at_ x.l.l.length x.l.cap):=cell_blk hx 4
 have HX:=hide hx;have HW:=hide hW;have HIG:=hide hig;have HINS:=hide hINS
 have hxk:ig≠K.cb:=by have:=h.out.size.2;omega
 have hxv:vs.ownBlock≠some ig:=fun e=>by have:=own_lt h.out.os ig e;omega
 have hxb:vb.ownBlock≠some ig:=fun e=>by have:=own_lt h.out.ob ig e;omega
 have ha64:=hxi.out.a
 have HP:=hide (copen_any K vs vb cs st x W hkW hs hcl)
 unfold StP at HP
 rw[HINS.out,hc]at HP
 simp only at HP
 clear hW hx hig hbw hsz hR hINS
 go_enter Tryz.func107,Tryz.ntmps107
 go_upto_region 1 with fail
 rw[HW.out,HIG.out]
 go_wp2_with fail
 refine HP.out.mono ?_;rintro e w5 ⟨vs5,vb5,cs5,rfl,hk5,hn5,hb5⟩
 go_wp2_with fail
 go_ret
 exact⟨vs5,vb5,cs5,rfl,hk5,hnW.out.trans hn5.out,hb5⟩
set_option maxRecDepth 100000 in
set_option maxHeartbeats 1600000 in
theorem cctrl3 (K:KX) (vs vb:Value) (cs:List CB) (st:List UInt8) (x:XL) (w w0:World) (v:PE) (sr:Sl UInt8) (h:Hid (CK w K vs vb cs st)) (hv:Hid (InvP (psOf cs st))) (hs:st.length≤10000000) (hcl:cs.length≤100000) (hxi:Hid x.x.In) (hlab:Hid (Row w0 1 uD x.l)) (hb0:Hid (Below w0.heap.size w0 w)) (hbs:w0.heap.size≤K.bs) (hfar:∀q,K.far=some q→w0.heap.size≤q) (hll:x.l.l.length≤1000) (hsr:Hid (Row w0 1 bD sr)) (hvr:v.r=sr.l) (hsl:sr.l.length≤1000) (hk3:K.c3=.slice sr.at_ sr.l.length sr.cap) (hc:x.code=3) :
  Calls Tryz.prog 107 #[.pointer (some ⟨K.cb,0,none⟩),insV2 x] w (StP w K vs vb (controlP v (psOf cs st) x.x) (.bool true)):=by
 obtain⟨W,hW,hbw,hx,hsz⟩:=ins_box w x
 obtain⟨ig,hig⟩:∃ig,w.heap.size=ig:=⟨_,rfl⟩
 rw[hig]at hx
 have hkW:=hide (h.out.quiet hbw)
 have hnW:Hid (NW w W K.cb vs vb vs vb):=NW.of_below hbw
 have hbW0:=hide (hb0.out.trans (hbw.mono hb0.out.size))
 have hINS:insV2 x=.agg #[.int .i64 3,.int .u64 (x.a:Int),.int .u64 (x.b:Int),.int .i64 x.al,.slice x.l.at_ x.l.l.length x.l.cap]:=by unfold insV2;rw[hc]
 have hR:controlP v (psOf cs st) x.x=.ok (openP (psOf cs st) 3 x.a):=by unfold controlP;rw[show x.x.code=3 from hc];rfl
 rw[hR,hINS]
 rw[hc]at hx hW
 have d0:W.cell? ⟨ig,0,none⟩=some (.int .i64 3):=cell_blk hx 0
 have d1:W.cell? ⟨ig,1,none⟩=some (.int .u64 (x.a:Int)):=cell_blk hx 1
 have d2:W.cell? ⟨ig,2,none⟩=some (.int .u64 (x.b:Int)):=cell_blk hx 2
 have d3:W.cell? ⟨ig,3,none⟩=some (.int .i64 x.al):=cell_blk hx 3
 have d4:W.cell? ⟨ig,4,none⟩=some (.slice x.l.at_ x.l.l.length x.l.cap):=cell_blk hx 4
 have HX:=hide hx;have HW:=hide hW;have HIG:=hide hig;have HINS:=hide hINS
 have hxk:ig≠K.cb:=by have:=h.out.size.2;omega
 have hxv:vs.ownBlock≠some ig:=fun e=>by have:=own_lt h.out.os ig e;omega
 have hxb:vb.ownBlock≠some ig:=fun e=>by have:=own_lt h.out.ob ig e;omega
 have ha64:=hxi.out.a
 have HP:=hide (copen_any K vs vb cs st x W hkW hs hcl)
 unfold StP at HP
 rw[HINS.out,hc]at HP
 simp only at HP
 clear hW hx hig hbw hsz hR hINS
 go_enter Tryz.func107,Tryz.ntmps107
 go_upto_region 1 with fail
 rw[HW.out,HIG.out]
 go_wp2_with fail
 refine HP.out.mono ?_;rintro e w5 ⟨vs5,vb5,cs5,rfl,hk5,hn5,hb5⟩
 go_wp2_with fail
 go_ret
 exact⟨vs5,vb5,cs5,rfl,hk5,hnW.out.trans hn5.out,hb5⟩
set_option maxRecDepth 100000 in
set_option maxHeartbeats 1600000 in
theorem cctrl5 (K:KX) (vs vb:Value) (cs:List CB) (st:List UInt8) (x:XL) (w w0:World) (v:PE) (sr:Sl UInt8) (h:Hid (CK w K vs vb cs st)) (hv:Hid (InvP (psOf cs st))) (hs:st.length≤10000000) (hcl:cs.length≤100000) (hxi:Hid x.x.In) (hlab:Hid (Row w0 1 uD x.l)) (hb0:Hid (Below w0.heap.size w0 w)) (hbs:w0.heap.size≤K.bs) (hfar:∀q,K.far=some q→w0.heap.size≤q) (hll:x.l.l.length≤1000) (hsr:Hid (Row w0 1 bD sr)) (hvr:v.r=sr.l) (hsl:sr.l.length≤1000) (hk3:K.c3=.slice sr.at_ sr.l.length sr.cap) (hc:x.code=5) :
  Calls Tryz.prog 107 #[.pointer (some ⟨K.cb,0,none⟩),insV2 x] w (StP w K vs vb (controlP v (psOf cs st) x.x) (.bool true)):=by
 obtain⟨W,hW,hbw,hx,hsz⟩:=ins_box w x
 obtain⟨ig,hig⟩:∃ig,w.heap.size=ig:=⟨_,rfl⟩
 rw[hig]at hx
 have hkW:=hide (h.out.quiet hbw)
 have hnW:Hid (NW w W K.cb vs vb vs vb):=NW.of_below hbw
 have hbW0:=hide (hb0.out.trans (hbw.mono hb0.out.size))
 have hINS:insV2 x=.agg #[.int .i64 5,.int .u64 (x.a:Int),.int .u64 (x.b:Int),.int .i64 x.al,.slice x.l.at_ x.l.l.length x.l.cap]:=by unfold insV2;rw[hc]
 have hR:controlP v (psOf cs st) x.x=otherP (psOf cs st):=by unfold controlP;rw[show x.x.code=5 from hc];rfl
 rw[hR,hINS]
 rw[hc]at hx hW
 have d0:W.cell? ⟨ig,0,none⟩=some (.int .i64 5):=cell_blk hx 0
 have d1:W.cell? ⟨ig,1,none⟩=some (.int .u64 (x.a:Int)):=cell_blk hx 1
 have d2:W.cell? ⟨ig,2,none⟩=some (.int .u64 (x.b:Int)):=cell_blk hx 2
 have d3:W.cell? ⟨ig,3,none⟩=some (.int .i64 x.al):=cell_blk hx 3
 have d4:W.cell? ⟨ig,4,none⟩=some (.slice x.l.at_ x.l.l.length x.l.cap):=cell_blk hx 4
 have HX:=hide hx;have HW:=hide hW;have HIG:=hide hig;have HINS:=hide hINS
 have hxk:ig≠K.cb:=by have:=h.out.size.2;omega
 have hxv:vs.ownBlock≠some ig:=fun e=>by have:=own_lt h.out.os ig e;omega
 have hxb:vb.ownBlock≠some ig:=fun e=>by have:=own_lt h.out.ob ig e;omega
 have ha64:=hxi.out.a
 have HP:=hide (cother_any K vs vb cs st W hkW hv hs hcl)
 unfold StP at HP
 clear hW hx hig hbw hsz hR hINS
 cases hq:otherP (psOf cs st) with
 | bad n =>
  rw[hq]at HP
  simp only at HP
  clear hq
  go_enter Tryz.func107,Tryz.ntmps107
  go_upto_region 1 with fail
  rw[HW.out,HIG.out]
  go_wp2_with fail
  refine HP.out.mono ?_;rintro e w5 ⟨rfl,h5⟩
  unfold flt
  go_wp2_with fail
  exact⟨rfl,rfl,(NW.bad hnW.out h5.out)⟩
 | ok s =>
  rw[hq]at HP
  simp only at HP
  clear hq
  go_enter Tryz.func107,Tryz.ntmps107
  go_upto_region 1 with fail
  rw[HW.out,HIG.out]
  go_wp2_with fail
  refine HP.out.mono ?_;rintro e w5 ⟨vs5,vb5,cs5,rfl,hk5,hn5,hb5⟩
  go_wp2_with fail
  go_ret
  exact⟨vs5,vb5,cs5,rfl,hk5,hnW.out.trans hn5.out,hb5⟩
set_option maxRecDepth 100000 in
set_option maxHeartbeats 1600000 in
theorem cctrl11 (K:KX) (vs vb:Value) (cs:List CB) (st:List UInt8) (x:XL) (w w0:World) (v:PE) (sr:Sl UInt8) (h:Hid (CK w K vs vb cs st)) (hv:Hid (InvP (psOf cs st))) (hs:st.length≤10000000) (hcl:cs.length≤100000) (hxi:Hid x.x.In) (hlab:Hid (Row w0 1 uD x.l)) (hb0:Hid (Below w0.heap.size w0 w)) (hbs:w0.heap.size≤K.bs) (hfar:∀q,K.far=some q→w0.heap.size≤q) (hll:x.l.l.length≤1000) (hsr:Hid (Row w0 1 bD sr)) (hvr:v.r=sr.l) (hsl:sr.l.length≤1000) (hk3:K.c3=.slice sr.at_ sr.l.length sr.cap) (hc:x.code=11) :
  Calls Tryz.prog 107 #[.pointer (some ⟨K.cb,0,none⟩),insV2 x] w (StP w K vs vb (controlP v (psOf cs st) x.x) (.bool true)):=by
 obtain⟨W,hW,hbw,hx,hsz⟩:=ins_box w x
 obtain⟨ig,hig⟩:∃ig,w.heap.size=ig:=⟨_,rfl⟩
 rw[hig]at hx
 have hkW:=hide (h.out.quiet hbw)
 have hnW:Hid (NW w W K.cb vs vb vs vb):=NW.of_below hbw
 have hbW0:=hide (hb0.out.trans (hbw.mono hb0.out.size))
 have hINS:insV2 x=.agg #[.int .i64 11,.int .u64 (x.a:Int),.int .u64 (x.b:Int),.int .i64 x.al,.slice x.l.at_ x.l.l.length x.l.cap]:=by unfold insV2;rw[hc]
 have hR:controlP v (psOf cs st) x.x=endP (psOf cs st):=by unfold controlP;rw[show x.x.code=11 from hc];rfl
 rw[hR,hINS]
 rw[hc]at hx hW
 have d0:W.cell? ⟨ig,0,none⟩=some (.int .i64 11):=cell_blk hx 0
 have d1:W.cell? ⟨ig,1,none⟩=some (.int .u64 (x.a:Int)):=cell_blk hx 1
 have d2:W.cell? ⟨ig,2,none⟩=some (.int .u64 (x.b:Int)):=cell_blk hx 2
 have d3:W.cell? ⟨ig,3,none⟩=some (.int .i64 x.al):=cell_blk hx 3
 have d4:W.cell? ⟨ig,4,none⟩=some (.slice x.l.at_ x.l.l.length x.l.cap):=cell_blk hx 4
 have HX:=hide hx;have HW:=hide hW;have HIG:=hide hig;have HINS:=hide hINS
 have hxk:ig≠K.cb:=by have:=h.out.size.2;omega
 have hxv:vs.ownBlock≠some ig:=fun e=>by have:=own_lt h.out.os ig e;omega
 have hxb:vb.ownBlock≠some ig:=fun e=>by have:=own_lt h.out.ob ig e;omega
 have ha64:=hxi.out.a
 have HP:=hide (cend_any K vs vb cs st W hkW hv hs hcl)
 unfold StP at HP
 clear hW hx hig hbw hsz hR hINS
 cases hq:endP (psOf cs st) with
 | bad n =>
  rw[hq]at HP
  simp only at HP
  clear hq
  go_enter Tryz.func107,Tryz.ntmps107
  go_upto_region 1 with fail
  rw[HW.out,HIG.out]
  go_wp2_with fail
  refine HP.out.mono ?_;rintro e w5 ⟨rfl,h5⟩
  unfold flt
  go_wp2_with fail
  exact⟨rfl,rfl,(NW.bad hnW.out h5.out)⟩
 | ok s =>
  rw[hq]at HP
  simp only at HP
  clear hq
  go_enter Tryz.func107,Tryz.ntmps107
  go_upto_region 1 with fail
  rw[HW.out,HIG.out]
  go_wp2_with fail
  refine HP.out.mono ?_;rintro e w5 ⟨vs5,vb5,cs5,rfl,hk5,hn5,hb5⟩
  go_wp2_with fail
  go_ret
  exact⟨vs5,vb5,cs5,rfl,hk5,hnW.out.trans hn5.out,hb5⟩
set_option maxRecDepth 100000 in
set_option maxHeartbeats 1600000 in
theorem cctrl14 (K:KX) (vs vb:Value) (cs:List CB) (st:List UInt8) (x:XL) (w w0:World) (v:PE) (sr:Sl UInt8) (h:Hid (CK w K vs vb cs st)) (hv:Hid (InvP (psOf cs st))) (hs:st.length≤10000000) (hcl:cs.length≤100000) (hxi:Hid x.x.In) (hlab:Hid (Row w0 1 uD x.l)) (hb0:Hid (Below w0.heap.size w0 w)) (hbs:w0.heap.size≤K.bs) (hfar:∀q,K.far=some q→w0.heap.size≤q) (hll:x.l.l.length≤1000) (hsr:Hid (Row w0 1 bD sr)) (hvr:v.r=sr.l) (hsl:sr.l.length≤1000) (hk3:K.c3=.slice sr.at_ sr.l.length sr.cap) (hc:x.code=14) :
  Calls Tryz.prog 107 #[.pointer (some ⟨K.cb,0,none⟩),insV2 x] w (StP w K vs vb (controlP v (psOf cs st) x.x) (.bool true)):=by
 obtain⟨W,hW,hbw,hx,hsz⟩:=ins_box w x
 obtain⟨ig,hig⟩:∃ig,w.heap.size=ig:=⟨_,rfl⟩
 rw[hig]at hx
 have hkW:=hide (h.out.quiet hbw)
 have hnW:Hid (NW w W K.cb vs vb vs vb):=NW.of_below hbw
 have hbW0:=hide (hb0.out.trans (hbw.mono hb0.out.size))
 have hINS:insV2 x=.agg #[.int .i64 14,.int .u64 (x.a:Int),.int .u64 (x.b:Int),.int .i64 x.al,.slice x.l.at_ x.l.l.length x.l.cap]:=by unfold insV2;rw[hc]
 have hR:controlP v (psOf cs st) x.x=branchP (psOf cs st) x.x:=by unfold controlP;rw[show x.x.code=14 from hc];rfl
 rw[hR,hINS]
 rw[hc]at hx hW
 have d0:W.cell? ⟨ig,0,none⟩=some (.int .i64 14):=cell_blk hx 0
 have d1:W.cell? ⟨ig,1,none⟩=some (.int .u64 (x.a:Int)):=cell_blk hx 1
 have d2:W.cell? ⟨ig,2,none⟩=some (.int .u64 (x.b:Int)):=cell_blk hx 2
 have d3:W.cell? ⟨ig,3,none⟩=some (.int .i64 x.al):=cell_blk hx 3
 have d4:W.cell? ⟨ig,4,none⟩=some (.slice x.l.at_ x.l.l.length x.l.cap):=cell_blk hx 4
 have HX:=hide hx;have HW:=hide hW;have HIG:=hide hig;have HINS:=hide hINS
 have hxk:ig≠K.cb:=by have:=h.out.size.2;omega
 have hxv:vs.ownBlock≠some ig:=fun e=>by have:=own_lt h.out.os ig e;omega
 have hxb:vb.ownBlock≠some ig:=fun e=>by have:=own_lt h.out.ob ig e;omega
 have ha64:=hxi.out.a
 have HP:=hide (cbranch_any K vs vb cs st x W w0 hkW hv hs hcl hxi hlab hbW0 hbs hll)
 unfold StP at HP
 rw[HINS.out]at HP
 clear hW hx hig hbw hsz hR hINS
 cases hq:branchP (psOf cs st) x.x with
 | bad n =>
  rw[hq]at HP
  simp only at HP
  clear hq
  go_enter Tryz.func107,Tryz.ntmps107
  go_upto_region 1 with fail
  rw[HW.out,HIG.out]
  go_wp2_with fail
  refine HP.out.mono ?_;rintro e w5 ⟨rfl,h5⟩
  unfold flt
  go_wp2_with fail
  exact⟨rfl,rfl,(NW.bad hnW.out h5.out)⟩
 | ok s =>
  rw[hq]at HP
  simp only at HP
  clear hq
  go_enter Tryz.func107,Tryz.ntmps107
  go_upto_region 1 with fail
  rw[HW.out,HIG.out]
  go_wp2_with fail
  refine HP.out.mono ?_;rintro e w5 ⟨vs5,vb5,cs5,rfl,hk5,hn5,hb5⟩
  go_wp2_with fail
  go_ret
  exact⟨vs5,vb5,cs5,rfl,hk5,hnW.out.trans hn5.out,hb5⟩
set_option maxRecDepth 100000 in
set_option maxHeartbeats 1600000 in
theorem cctrl4 (K:KX) (vs vb:Value) (cs:List CB) (st:List UInt8) (x:XL) (w w0:World) (v:PE) (sr:Sl UInt8) (h:Hid (CK w K vs vb cs st)) (hv:Hid (InvP (psOf cs st))) (hs:st.length≤10000000) (hcl:cs.length≤100000) (hxi:Hid x.x.In) (hlab:Hid (Row w0 1 uD x.l)) (hb0:Hid (Below w0.heap.size w0 w)) (hbs:w0.heap.size≤K.bs) (hfar:∀q,K.far=some q→w0.heap.size≤q) (hll:x.l.l.length≤1000) (hsr:Hid (Row w0 1 bD sr)) (hvr:v.r=sr.l) (hsl:sr.l.length≤1000) (hk3:K.c3=.slice sr.at_ sr.l.length sr.cap) (hc:x.code=4) :
  Calls Tryz.prog 107 #[.pointer (some ⟨K.cb,0,none⟩),insV2 x] w (StP w K vs vb (controlP v (psOf cs st) x.x) (.bool true)):=by
 obtain⟨W,hW,hbw,hx,hsz⟩:=ins_box w x
 obtain⟨ig,hig⟩:∃ig,w.heap.size=ig:=⟨_,rfl⟩
 rw[hig]at hx
 have hkW:=hide (h.out.quiet hbw)
 have hnW:Hid (NW w W K.cb vs vb vs vb):=NW.of_below hbw
 have hbW0:=hide (hb0.out.trans (hbw.mono hb0.out.size))
 have hINS:insV2 x=.agg #[.int .i64 4,.int .u64 (x.a:Int),.int .u64 (x.b:Int),.int .i64 x.al,.slice x.l.at_ x.l.l.length x.l.cap]:=by unfold insV2;rw[hc]
 have hR:controlP v (psOf cs st) x.x=(pop1 (psOf cs st) 127).then fun s1=>.ok (openP s1 4 x.a):=by unfold controlP;rw[show x.x.code=4 from hc];rfl
 rw[hR,hINS]
 rw[hc]at hx hW
 have d0:W.cell? ⟨ig,0,none⟩=some (.int .i64 4):=cell_blk hx 0
 have d1:W.cell? ⟨ig,1,none⟩=some (.int .u64 (x.a:Int)):=cell_blk hx 1
 have d2:W.cell? ⟨ig,2,none⟩=some (.int .u64 (x.b:Int)):=cell_blk hx 2
 have d3:W.cell? ⟨ig,3,none⟩=some (.int .i64 x.al):=cell_blk hx 3
 have d4:W.cell? ⟨ig,4,none⟩=some (.slice x.l.at_ x.l.l.length x.l.cap):=cell_blk hx 4
 have HX:=hide hx;have HW:=hide hW;have HIG:=hide hig;have HINS:=hide hINS
 have hxk:ig≠K.cb:=by have:=h.out.size.2;omega
 have hxv:vs.ownBlock≠some ig:=fun e=>by have:=own_lt h.out.os ig e;omega
 have hxb:vb.ownBlock≠some ig:=fun e=>by have:=own_lt h.out.ob ig e;omega
 have ha64:=hxi.out.a
 have HP:=hide (cpop_any K vs vb cs st 127 W hkW hv.out hs hcl)
 have hpk:=fun q (hq:popP (psOf cs st) 127=.ok q)=>popP_ok hq hv.out
 unfold pop1
 clear hW hx hig hbw hsz hR hINS
 cases hq:popP (psOf cs st) 127 with
 | bad n =>
  rw[hq]at HP
  simp only at HP
  simp only[RR.then]
  clear hq hpk
  go_enter Tryz.func107,Tryz.ntmps107
  go_upto_region 1 with fail
  rw[HW.out,HIG.out]
  go_wp2_with fail
  refine HP.out.mono ?_;rintro e w5 ⟨rfl,h5⟩
  unfold flt
  go_wp2_with fail
  exact⟨rfl,rfl,(NW.bad hnW.out h5.out)⟩
 | ok q =>
  obtain⟨i1,i2,i3⟩:=hpk q hq
  rw[hq]at HP
  simp only at HP
  simp only[RR.then]
  have I1:=hide i1
  have I3:q.1.st.length≤10000000:=Nat.le_trans i3 hs
  clear hq hpk i1 i2 i3
  go_enter Tryz.func107,Tryz.ntmps107
  go_upto_region 1 with fail
  rw[HW.out,HIG.out]
  go_wp2_with fail
  refine HP.out.mono ?_;rintro e w4 ⟨vs4,rfl,hk4,hn4,hbl4⟩
  have hps:psOf cs q.1.st=q.1:=psOf_eq hbl4
  have HO:=hide (copen_any K vs4 vb cs q.1.st x w4 hk4 I3 hcl)
  unfold StP at HO
  rw[HINS.out,hc,hps]at HO
  simp only at HO
  have hx4:=(hn4.out.fresh (blk_lt HX.out) hxk hxv hxb).1.trans HX.out
  have d0:w4.cell? ⟨ig,0,none⟩=some (.int .i64 4):=cell_blk hx4 0
  have d1:w4.cell? ⟨ig,1,none⟩=some (.int .u64 (x.a:Int)):=cell_blk hx4 1
  have d2:w4.cell? ⟨ig,2,none⟩=some (.int .u64 (x.b:Int)):=cell_blk hx4 2
  have d3:w4.cell? ⟨ig,3,none⟩=some (.int .i64 x.al):=cell_blk hx4 3
  have d4:w4.cell? ⟨ig,4,none⟩=some (.slice x.l.at_ x.l.l.length x.l.cap):=cell_blk hx4 4
  have hnn:=hide (hnW.out.trans hn4.out)
  clear HP hps hbl4 hx4
  go_wp2_with fail
  refine HO.out.mono ?_;rintro e w5 ⟨vs5,vb5,cs5,rfl,hk5,hn5,hb5⟩
  go_wp2_with fail
  go_ret
  exact⟨vs5,vb5,cs5,rfl,hk5,hnn.out.trans hn5.out,hb5⟩
set_option maxRecDepth 100000 in
set_option maxHeartbeats 1600000 in
theorem cctrl15 (K:KX) (vs vb:Value) (cs:List CB) (st:List UInt8) (x:XL) (w w0:World) (v:PE) (sr:Sl UInt8) (h:Hid (CK w K vs vb cs st)) (hv:Hid (InvP (psOf cs st))) (hs:st.length≤10000000) (hcl:cs.length≤100000) (hxi:Hid x.x.In) (hlab:Hid (Row w0 1 uD x.l)) (hb0:Hid (Below w0.heap.size w0 w)) (hbs:w0.heap.size≤K.bs) (hfar:∀q,K.far=some q→w0.heap.size≤q) (hll:x.l.l.length≤1000) (hsr:Hid (Row w0 1 bD sr)) (hvr:v.r=sr.l) (hsl:sr.l.length≤1000) (hk3:K.c3=.slice sr.at_ sr.l.length sr.cap) (hc:x.code=15) :
  Calls Tryz.prog 107 #[.pointer (some ⟨K.cb,0,none⟩),insV2 x] w (StP w K vs vb (controlP v (psOf cs st) x.x) (.bool true)):=by
 obtain⟨W,hW,hbw,hx,hsz⟩:=ins_box w x
 obtain⟨ig,hig⟩:∃ig,w.heap.size=ig:=⟨_,rfl⟩
 rw[hig]at hx
 have hkW:=hide (h.out.quiet hbw)
 have hnW:Hid (NW w W K.cb vs vb vs vb):=NW.of_below hbw
 have hbW0:=hide (hb0.out.trans (hbw.mono hb0.out.size))
 have hINS:insV2 x=.agg #[.int .i64 15,.int .u64 (x.a:Int),.int .u64 (x.b:Int),.int .i64 x.al,.slice x.l.at_ x.l.l.length x.l.cap]:=by unfold insV2;rw[hc]
 have hR:controlP v (psOf cs st) x.x=(popsP (psOf cs st) sr.l).then fun s1=>.ok (killP s1):=by unfold controlP;rw[show x.x.code=15 from hc,hvr];rfl
 rw[hR,hINS]
 rw[hc]at hx hW
 have d0:W.cell? ⟨ig,0,none⟩=some (.int .i64 15):=cell_blk hx 0
 have d1:W.cell? ⟨ig,1,none⟩=some (.int .u64 (x.a:Int)):=cell_blk hx 1
 have d2:W.cell? ⟨ig,2,none⟩=some (.int .u64 (x.b:Int)):=cell_blk hx 2
 have d3:W.cell? ⟨ig,3,none⟩=some (.int .i64 x.al):=cell_blk hx 3
 have d4:W.cell? ⟨ig,4,none⟩=some (.slice x.l.at_ x.l.l.length x.l.cap):=cell_blk hx 4
 have HX:=hide hx;have HW:=hide hW;have HIG:=hide hig;have HINS:=hide hINS
 have hxk:ig≠K.cb:=by have:=h.out.size.2;omega
 have hxv:vs.ownBlock≠some ig:=fun e=>by have:=own_lt h.out.os ig e;omega
 have hxb:vb.ownBlock≠some ig:=fun e=>by have:=own_lt h.out.ob ig e;omega
 have ha64:=hxi.out.a
 obtain⟨R,hRR⟩:∃R,((popsP (psOf cs st) sr.l).then fun s1=>.ok (killP s1))=R:=⟨_,rfl⟩
 rw[hRR]
 have HR:=hide hRR
 have c3:W.cell? ⟨K.cb,3,none⟩=some (.slice sr.at_ sr.l.length sr.cap):=by rw[←hk3];exact cell_blk hkW.out.blk 3
 have HPS:=hide (cpops_any K vs vb cs st sr W hkW (hide (hkW.out.res_env hbs hfar hbW0.out hsr.out)) hv hs hcl (by omega))
 have hpk:=fun s (hq:popsP (psOf cs st) sr.l=.ok s)=>popsP_ok hq hv.out
 have hnn:=hnW
 clear hRR hk3 hvr
 clear hW hx hig hbw hsz hR hINS
 go_enter Tryz.func107,Tryz.ntmps107
 go_upto_region 1 with fail
 rw[HW.out,HIG.out]
 go_wp2_with fail
 cases hq2:popsP (psOf cs st) sr.l with
 | bad n =>
  rw[hq2]at HPS
  unfold StQ at HPS
  simp only at HPS
  have hend:Hid (R=.bad n):=by show _=_;rw[←HR.out,hq2];rfl
  clear hq2 hpk HR
  go_wp2_with fail
  refine HPS.out.mono ?_;rintro e6 w6 ⟨rfl,h6⟩
  unfold flt
  go_wp2_with fail
  exact⟨rfl,StP.bad hend.out rfl ((NW.bad hnn.out h6.out))⟩
 | ok s2 =>
  obtain⟨j1,j2,j3⟩:=hpk s2 hq2
  rw[hq2]at HPS
  unfold StQ at HPS
  simp only at HPS
  have hend:Hid (R=.ok (killP s2)):=by show _=_;rw[←HR.out,hq2];rfl
  have J1:=hide j1
  have J3:s2.st.length≤10000000:=Nat.le_trans j3 hs
  clear hq2 hpk j1 j2 j3 HR
  go_wp2_with fail
  refine HPS.out.mono ?_;rintro e6 w6 ⟨vs6,rfl,hk6,hn6,hbl6⟩
  have hps2:psOf cs s2.st=s2:=psOf_eq hbl6.out
  have HKL:=hide (ckill_any K vs6 vb cs s2.st w6 hk6 (hide (by rw[hps2];exact J1.out)) J3 hcl)
  rw[hps2]at HKL
  have hnn6:=hide (hnn.out.trans hn6.out)
  unfold StP at HKL
  simp only at HKL
  clear HPS hps2
  go_wp2_with fail
  refine HKL.out.mono ?_;rintro e7 w7 ⟨vs7,vb7,cs7,rfl,hk7,hn7,hbl7⟩
  go_wp2_with fail
  go_ret
  exact StP.ok hend.out rfl hk7.out (hnn6.out.trans hn7.out) hbl7.out
set_option maxRecDepth 100000 in
set_option maxHeartbeats 1600000 in
theorem cctrl12 (K:KX) (vs vb:Value) (cs:List CB) (st:List UInt8) (x:XL) (w w0:World) (v:PE) (sr:Sl UInt8) (h:Hid (CK w K vs vb cs st)) (hv:Hid (InvP (psOf cs st))) (hs:st.length≤10000000) (hcl:cs.length≤100000) (hxi:Hid x.x.In) (hlab:Hid (Row w0 1 uD x.l)) (hb0:Hid (Below w0.heap.size w0 w)) (hbs:w0.heap.size≤K.bs) (hfar:∀q,K.far=some q→w0.heap.size≤q) (hll:x.l.l.length≤1000) (hsr:Hid (Row w0 1 bD sr)) (hvr:v.r=sr.l) (hsl:sr.l.length≤1000) (hk3:K.c3=.slice sr.at_ sr.l.length sr.cap) (hc:x.code=12) :
  Calls Tryz.prog 107 #[.pointer (some ⟨K.cb,0,none⟩),insV2 x] w (StP w K vs vb (controlP v (psOf cs st) x.x) (.bool true)):=by
 obtain⟨W,hW,hbw,hx,hsz⟩:=ins_box w x
 obtain⟨ig,hig⟩:∃ig,w.heap.size=ig:=⟨_,rfl⟩
 rw[hig]at hx
 have hkW:=hide (h.out.quiet hbw)
 have hnW:Hid (NW w W K.cb vs vb vs vb):=NW.of_below hbw
 have hbW0:=hide (hb0.out.trans (hbw.mono hb0.out.size))
 have hINS:insV2 x=.agg #[.int .i64 12,.int .u64 (x.a:Int),.int .u64 (x.b:Int),.int .i64 x.al,.slice x.l.at_ x.l.l.length x.l.cap]:=by unfold insV2;rw[hc]
 have hR:controlP v (psOf cs st) x.x=(labelP (psOf cs st) x.a).then fun l=>(popsP (psOf cs st) l).then fun s1=>.ok (killP s1):=by unfold controlP;rw[show x.x.code=12 from hc];rfl
 rw[hR,hINS]
 rw[hc]at hx hW
 have d0:W.cell? ⟨ig,0,none⟩=some (.int .i64 12):=cell_blk hx 0
 have d1:W.cell? ⟨ig,1,none⟩=some (.int .u64 (x.a:Int)):=cell_blk hx 1
 have d2:W.cell? ⟨ig,2,none⟩=some (.int .u64 (x.b:Int)):=cell_blk hx 2
 have d3:W.cell? ⟨ig,3,none⟩=some (.int .i64 x.al):=cell_blk hx 3
 have d4:W.cell? ⟨ig,4,none⟩=some (.slice x.l.at_ x.l.l.length x.l.cap):=cell_blk hx 4
 have HX:=hide hx;have HW:=hide hW;have HIG:=hide hig;have HINS:=hide hINS
 have hxk:ig≠K.cb:=by have:=h.out.size.2;omega
 have hxv:vs.ownBlock≠some ig:=fun e=>by have:=own_lt h.out.os ig e;omega
 have hxb:vb.ownBlock≠some ig:=fun e=>by have:=own_lt h.out.ob ig e;omega
 have ha64:=hxi.out.a
 obtain⟨R,hRR⟩:∃R,((labelP (psOf cs st) x.a).then fun l=>(popsP (psOf cs st) l).then fun s1=>.ok (killP s1))=R:=⟨_,rfl⟩
 rw[hRR]
 have HR:=hide hRR
 have HLA:=hide (clabel_any K vs vb cs st x.a W hkW hcl ha64)
 clear hRR
 clear hW hx hig hbw hsz hR hINS
 cases hla:labelP (psOf cs st) x.a with
 | bad n =>
  have hend:Hid (R=.bad n):=by show _=_;rw[←HR.out,hla];rfl
  rw[hla]at HLA
  unfold LabP at HLA
  simp only at HLA
  clear HR hla
  go_enter Tryz.func107,Tryz.ntmps107
  go_upto_region 1 with fail
  rw[HW.out,HIG.out]
  go_wp2_with fail
  refine HLA.out.mono ?_;rintro e w5 ⟨rfl,h5⟩
  unfold flt
  go_wp2_with fail
  exact⟨rfl,StP.bad hend.out rfl (Bad.of (hnW.out.trans (NW.of_below h5.out)))⟩
 | ok want =>
  replace HR:Hid (((popsP (psOf cs st) want).then fun s1=>.ok (killP s1))=R):=by show _=_;rw[←HR.out,hla];rfl
  have HLAE:=hide hla
  rw[hla]at HLA
  unfold LabP at HLA
  simp only at HLA
  clear hla
  go_enter Tryz.func107,Tryz.ntmps107
  go_upto_region 1 with fail
  rw[HW.out,HIG.out]
  go_wp2_with fail
  refine HLA.out.mono ?_;rintro e w1 ⟨sw,rfl,hsw,hrw,h1⟩
  have hswl:sw.l.length≤1000:=inv_res hv.out (by rw[hsw];exact HLAE.out)
  subst hsw
  have hk1:=hide (hkW.out.quiet h1.out)
  have hn1:=hide (hnW.out.trans (NW.of_below h1.out))
  have HPS:=hide (cpops_any K vs vb cs st sw w1 hk1 hrw hv hs hcl (by omega))
  have hpk:=fun s (hq:popsP (psOf cs st) sw.l=.ok s)=>popsP_ok hq hv.out
  have hnn:=hn1
  clear HLA
  cases hq2:popsP (psOf cs st) sw.l with
  | bad n =>
   rw[hq2]at HPS
   unfold StQ at HPS
   simp only at HPS
   have hend:Hid (R=.bad n):=by show _=_;rw[←HR.out,hq2];rfl
   clear hq2 hpk HR
   go_wp2_with fail
   refine HPS.out.mono ?_;rintro e6 w6 ⟨rfl,h6⟩
   unfold flt
   go_wp2_with fail
   exact⟨rfl,StP.bad hend.out rfl ((NW.bad hnn.out h6.out))⟩
  | ok s2 =>
   obtain⟨j1,j2,j3⟩:=hpk s2 hq2
   rw[hq2]at HPS
   unfold StQ at HPS
   simp only at HPS
   have hend:Hid (R=.ok (killP s2)):=by show _=_;rw[←HR.out,hq2];rfl
   have J1:=hide j1
   have J3:s2.st.length≤10000000:=Nat.le_trans j3 hs
   clear hq2 hpk j1 j2 j3 HR
   go_wp2_with fail
   refine HPS.out.mono ?_;rintro e6 w6 ⟨vs6,rfl,hk6,hn6,hbl6⟩
   have hps2:psOf cs s2.st=s2:=psOf_eq hbl6.out
   have HKL:=hide (ckill_any K vs6 vb cs s2.st w6 hk6 (hide (by rw[hps2];exact J1.out)) J3 hcl)
   rw[hps2]at HKL
   have hnn6:=hide (hnn.out.trans hn6.out)
   unfold StP at HKL
   simp only at HKL
   clear HPS hps2
   go_wp2_with fail
   refine HKL.out.mono ?_;rintro e7 w7 ⟨vs7,vb7,cs7,rfl,hk7,hn7,hbl7⟩
   go_wp2_with fail
   go_ret
   exact StP.ok hend.out rfl hk7.out (hnn6.out.trans hn7.out) hbl7.out
set_option maxRecDepth 100000 in
set_option maxHeartbeats 1600000 in
theorem cctrl13 (K:KX) (vs vb:Value) (cs:List CB) (st:List UInt8) (x:XL) (w w0:World) (v:PE) (sr:Sl UInt8) (h:Hid (CK w K vs vb cs st)) (hv:Hid (InvP (psOf cs st))) (hs:st.length≤10000000) (hcl:cs.length≤100000) (hxi:Hid x.x.In) (hlab:Hid (Row w0 1 uD x.l)) (hb0:Hid (Below w0.heap.size w0 w)) (hbs:w0.heap.size≤K.bs) (hfar:∀q,K.far=some q→w0.heap.size≤q) (hll:x.l.l.length≤1000) (hsr:Hid (Row w0 1 bD sr)) (hvr:v.r=sr.l) (hsl:sr.l.length≤1000) (hk3:K.c3=.slice sr.at_ sr.l.length sr.cap) (hc:x.code=13) :
  Calls Tryz.prog 107 #[.pointer (some ⟨K.cb,0,none⟩),insV2 x] w (StP w K vs vb (controlP v (psOf cs st) x.x) (.bool true)):=by
 obtain⟨W,hW,hbw,hx,hsz⟩:=ins_box w x
 obtain⟨ig,hig⟩:∃ig,w.heap.size=ig:=⟨_,rfl⟩
 rw[hig]at hx
 have hkW:=hide (h.out.quiet hbw)
 have hnW:Hid (NW w W K.cb vs vb vs vb):=NW.of_below hbw
 have hbW0:=hide (hb0.out.trans (hbw.mono hb0.out.size))
 have hINS:insV2 x=.agg #[.int .i64 13,.int .u64 (x.a:Int),.int .u64 (x.b:Int),.int .i64 x.al,.slice x.l.at_ x.l.l.length x.l.cap]:=by unfold insV2;rw[hc]
 have hR:controlP v (psOf cs st) x.x=(labelP (psOf cs st) x.a).then fun l=>(pop1 (psOf cs st) 127).then fun s1=>(popsP s1 l).then fun s2=>.ok (pushP s2 l):=by unfold controlP;rw[show x.x.code=13 from hc];rfl
 rw[hR,hINS]
 rw[hc]at hx hW
 have d0:W.cell? ⟨ig,0,none⟩=some (.int .i64 13):=cell_blk hx 0
 have d1:W.cell? ⟨ig,1,none⟩=some (.int .u64 (x.a:Int)):=cell_blk hx 1
 have d2:W.cell? ⟨ig,2,none⟩=some (.int .u64 (x.b:Int)):=cell_blk hx 2
 have d3:W.cell? ⟨ig,3,none⟩=some (.int .i64 x.al):=cell_blk hx 3
 have d4:W.cell? ⟨ig,4,none⟩=some (.slice x.l.at_ x.l.l.length x.l.cap):=cell_blk hx 4
 have HX:=hide hx;have HW:=hide hW;have HIG:=hide hig;have HINS:=hide hINS
 have hxk:ig≠K.cb:=by have:=h.out.size.2;omega
 have hxv:vs.ownBlock≠some ig:=fun e=>by have:=own_lt h.out.os ig e;omega
 have hxb:vb.ownBlock≠some ig:=fun e=>by have:=own_lt h.out.ob ig e;omega
 have ha64:=hxi.out.a
 obtain⟨R,hRR⟩:∃R,((labelP (psOf cs st) x.a).then fun l=>(pop1 (psOf cs st) 127).then fun s1=>(popsP s1 l).then fun s2=>.ok (pushP s2 l))=R:=⟨_,rfl⟩
 rw[hRR]
 have HR:=hide hRR
 have HLA:=hide (clabel_any K vs vb cs st x.a W hkW hcl ha64)
 clear hRR
 clear hW hx hig hbw hsz hR hINS
 cases hla:labelP (psOf cs st) x.a with
 | bad n =>
  have hend:Hid (R=.bad n):=by show _=_;rw[←HR.out,hla];rfl
  rw[hla]at HLA
  unfold LabP at HLA
  simp only at HLA
  clear HR hla
  go_enter Tryz.func107,Tryz.ntmps107
  go_upto_region 1 with fail
  rw[HW.out,HIG.out]
  go_wp2_with fail
  refine HLA.out.mono ?_;rintro e w5 ⟨rfl,h5⟩
  unfold flt
  go_wp2_with fail
  exact⟨rfl,StP.bad hend.out rfl (Bad.of (hnW.out.trans (NW.of_below h5.out)))⟩
 | ok want =>
  replace HR:Hid (((pop1 (psOf cs st) 127).then fun s1=>(popsP s1 want).then fun s2=>.ok (pushP s2 want))=R):=by show _=_;rw[←HR.out,hla];rfl
  have HLAE:=hide hla
  rw[hla]at HLA
  unfold LabP at HLA
  simp only at HLA
  clear hla
  go_enter Tryz.func107,Tryz.ntmps107
  go_upto_region 1 with fail
  rw[HW.out,HIG.out]
  go_wp2_with fail
  refine HLA.out.mono ?_;rintro e w1 ⟨sw,rfl,hsw,hrw,h1⟩
  have hswl:sw.l.length≤1000:=inv_res hv.out (by rw[hsw];exact HLAE.out)
  subst hsw
  have hk1:=hide (hkW.out.quiet h1.out)
  have hn1:=hide (hnW.out.trans (NW.of_below h1.out))
  have HP:=hide (cpop_any K vs vb cs st 127 w1 hk1 hv.out hs hcl)
  unfold pop1 at HR
  have hpk:=fun q (hq:popP (psOf cs st) 127=.ok q)=>popP_ok hq hv.out
  clear HLA
  cases hq:popP (psOf cs st) 127 with
  | bad n =>
   rw[hq]at HP HR
   simp only at HP
   have hend:Hid (R=.bad n):=HR.out.symm
   clear hq hpk HR
   go_wp2_with fail
   refine HP.out.mono ?_;rintro e5 w5 ⟨rfl,h5⟩
   unfold flt
   go_wp2_with fail
   exact⟨rfl,StP.bad hend.out rfl ((NW.bad hn1.out h5.out))⟩
  | ok q =>
   obtain⟨i1,i2,i3⟩:=hpk q hq
   rw[hq]at HP HR
   simp only at HP
   replace HR:Hid ((popsP q.1 sw.l).then (fun s2=>.ok (pushP s2 sw.l))=R):=HR
   have I1:=hide i1;have I2:=hide i2
   have I3:q.1.st.length≤10000000:=Nat.le_trans i3 hs
   clear hq hpk i1 i2 i3
   go_wp2_with fail
   refine HP.out.mono ?_;rintro e5 w5 ⟨vs5,rfl,hk5,hn5,hbl5⟩
   have hps:psOf cs q.1.st=q.1:=psOf_eq hbl5
   have hrw5:=hide (hrw.out.step hn5.out)
   have HPS:=hide (cpops_any K vs5 vb cs q.1.st sw w5 hk5 hrw5 (by rw[hps];exact I1) I3 hcl (by omega))
   rw[hps]at HPS
   have hnn:=hide (hn1.out.trans hn5.out)
   clear HP hps hbl5
   have hpk:=fun s (hq:popsP q.1 sw.l=.ok s)=>popsP_ok hq I1.out
   cases hq2:popsP q.1 sw.l with
   | bad n =>
    rw[hq2]at HPS HR
    unfold StQ at HPS
    simp only at HPS
    have hend:Hid (R=.bad n):=HR.out.symm
    clear hq2 hpk HR
    go_wp2_with fail
    refine HPS.out.mono ?_;rintro e6 w6 ⟨rfl,h6⟩
    unfold flt
    go_wp2_with fail
    exact⟨rfl,StP.bad hend.out rfl ((NW.bad hnn.out h6.out))⟩
   | ok s2 =>
    obtain⟨j1,j2,j3⟩:=hpk s2 hq2
    rw[hq2]at HPS HR
    unfold StQ at HPS
    simp only at HPS
    have hend:Hid (R=.ok (pushP s2 sw.l)):=HR.out.symm
    have J3:s2.st.length≤10000000:=Nat.le_trans j3 I3
    clear hq2 hpk j1 j2 j3 HR
    go_wp2_with fail
    refine HPS.out.mono ?_;rintro e6 w6 ⟨vs6,rfl,hk6,hn6,hbl6⟩
    have HPU:=hide (cpush_any K vs6 vb cs s2.st sw.at_ sw.cap sw.l.length sw.l w6 hk6 (hide (hrw5.out.step hn6.out).row.bytes) rfl J3 (by omega))
    have hnn6:=hide (hnn.out.trans hn6.out)
    clear HPS
    go_wp2_with fail
    refine HPU.out.mono ?_;rintro e7 w7 ⟨vs7,rfl,hk7,hn7⟩
    go_wp2_with fail
    go_ret
    exact StP.ok hend.out rfl hk7.out (hnn6.out.trans hn7.out) hbl6.out
set_option maxRecDepth 100000 in
set_option maxHeartbeats 1600000 in
theorem cctrl_no (K:KX) (vs vb:Value) (cs:List CB) (st:List UInt8) (x:XL) (w:World) (h:Hid (CK w K vs vb cs st)) (hc:ctrlC x.code=false) :
  Calls Tryz.prog 107 #[.pointer (some ⟨K.cb,0,none⟩),insV2 x] w (fun e w'=>e=.returned (.bool false)∧Hid (Below w.heap.size w w')):=by
 obtain⟨W,hW,hbw,hx,hsz⟩:=ins_box w x
 obtain⟨ig,hig⟩:∃ig,w.heap.size=ig:=⟨_,rfl⟩
 rw[hig]at hx
 have d0:W.cell? ⟨ig,0,none⟩=some (.int .i64 x.code):=cell_blk hx 0
 have HX:=hide hx;have HW:=hide hW;have HIG:=hide hig;have HBW:=hide hbw
 unfold ctrlC at hc
 simp only[Bool.or_eq_false_iff]at hc
 obtain⟨t0,t2,t3,t4,t5,t11,t12,t13,t14,t15⟩:=hc
 unfold insV2
 clear hW hx hig hbw hsz
 go_enter Tryz.func107,Tryz.ntmps107
 go_upto_region 1 with fail
 rw[HW.out,HIG.out]
 go_wp2_with fail
 go_ret
 exact⟨rfl,HBW.out⟩
theorem cctrl_any (K:KX) (vs vb:Value) (cs:List CB) (st:List UInt8) (x:XL) (w w0:World) (v:PE) (sr:Sl UInt8) (h:Hid (CK w K vs vb cs st)) (hv:Hid (InvP (psOf cs st))) (hs:st.length≤10000000) (hcl:cs.length≤100000) (hxi:Hid x.x.In) (hlab:Hid (Row w0 1 uD x.l)) (hb0:Hid (Below w0.heap.size w0 w)) (hbs:w0.heap.size≤K.bs) (hfar:∀q,K.far=some q→w0.heap.size≤q) (hll:x.l.l.length≤1000) (hsr:Hid (Row w0 1 bD sr)) (hvr:v.r=sr.l) (hsl:sr.l.length≤1000) (hk3:K.c3=.slice sr.at_ sr.l.length sr.cap) (hc:ctrlC x.code=true) :
  Calls Tryz.prog 107 #[.pointer (some ⟨K.cb,0,none⟩),insV2 x] w (StP w K vs vb (controlP v (psOf cs st) x.x) (.bool true)):=by
 unfold ctrlC at hc
 simp only[Bool.or_eq_true,beq_iff_eq]at hc
 rcases hc with hc|hc|hc|hc|hc|hc|hc|hc|hc|hc
 ·exact cctrl0 K vs vb cs st x w w0 v sr h hv hs hcl hxi hlab hb0 hbs hfar hll hsr hvr hsl hk3 hc
 ·exact cctrl2 K vs vb cs st x w w0 v sr h hv hs hcl hxi hlab hb0 hbs hfar hll hsr hvr hsl hk3 hc
 ·exact cctrl3 K vs vb cs st x w w0 v sr h hv hs hcl hxi hlab hb0 hbs hfar hll hsr hvr hsl hk3 hc
 ·exact cctrl4 K vs vb cs st x w w0 v sr h hv hs hcl hxi hlab hb0 hbs hfar hll hsr hvr hsl hk3 hc
 ·exact cctrl5 K vs vb cs st x w w0 v sr h hv hs hcl hxi hlab hb0 hbs hfar hll hsr hvr hsl hk3 hc
 ·exact cctrl11 K vs vb cs st x w w0 v sr h hv hs hcl hxi hlab hb0 hbs hfar hll hsr hvr hsl hk3 hc
 ·exact cctrl12 K vs vb cs st x w w0 v sr h hv hs hcl hxi hlab hb0 hbs hfar hll hsr hvr hsl hk3 hc
 ·exact cctrl13 K vs vb cs st x w w0 v sr h hv hs hcl hxi hlab hb0 hbs hfar hll hsr hvr hsl hk3 hc
 ·exact cctrl14 K vs vb cs st x w w0 v sr h hv hs hcl hxi hlab hb0 hbs hfar hll hsr hvr hsl hk3 hc
 ·exact cctrl15 K vs vb cs st x w w0 v sr h hv hs hcl hxi hlab hb0 hbs hfar hll hsr hvr hsl hk3 hc
end Go.Proofs.YtomppgohoplemaaGreat
