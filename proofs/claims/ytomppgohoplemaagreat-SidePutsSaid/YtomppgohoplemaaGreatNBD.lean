import Derived.Test.YtomppgohoplemaaGreatNBC
set_option linter.unusedVariables false
namespace Go.Proofs.YtomppgohoplemaaGreat
open Go.RowKit
theorem resIn_new {w W:World} {K:KX} {vs vb:Value} {cs:List CB} {st:List UInt8} (h:CK w K vs vb cs st) (l:List UInt8) (hl0:l.length≤1000) (hr:Reads W W.heap.size 1 (some ⟨w.heap.size,0,none⟩) l.length (l.map B)) (hlt:w.heap.size<W.heap.size) :
  ResIn W K vs vb ⟨some ⟨w.heap.size,0,none⟩,l.length,l⟩:=by
 refine⟨⟨by rw[map_bD];exact hr,Nat.le_refl _,by show l.length≤maxLen;unfold maxLen;omega⟩,fun h0 ad ha=>?_,fun h0 ad ha e=>by injection ha with ha;subst ha;have h4:w.heap.size<w.heap.size:=h.fz _ e;omega⟩
 injection ha with ha
 subst ha
 have h1:=h.size
 exact⟨hlt,by show w.heap.size≠K.cb;omega,fun e=>by have h4:w.heap.size<w.heap.size:=own_lt h.os _ e;omega,fun e=>by have h4:w.heap.size<w.heap.size:=own_lt h.ob _ e;omega⟩
theorem cpops3 (K:KX) (vs vb:Value) (cs:List CB) (st:List UInt8) (a b c:UInt8) (w:World) (h:Hid (CK w K vs vb cs st)) (hv:Hid (InvP (psOf cs st))) (hs:st.length≤10000000) (hcl:cs.length≤100000) :
  ∃W g,Hid (w.alloc (.cells #[.int .u8 (a.toNat:Int),.int .u8 (b.toNat:Int),.int .u8 (c.toNat:Int)] 133)=W)∧Hid (w.heap.size=g)∧Hid (NW w W K.cb vs vb vs vb) ∧
   Hid (Calls Tryz.prog 132 #[.pointer (some ⟨K.cb,0,none⟩),.slice (some ⟨g,0,none⟩) 3 3] W (StQ W K vs vb cs (popsP (psOf cs st) [a,b,c]) (.tuple #[]))):=by
 obtain⟨W,hW,hb,hx,hsz⟩:=box_new w #[.int .u8 (a.toNat:Int),.int .u8 (b.toNat:Int),.int .u8 (c.toNat:Int)] 133
 exact⟨W,_,hW,rfl,NW.of_below hb,cpops_any K vs vb cs st ⟨some ⟨w.heap.size,0,none⟩,3,[a,b,c]⟩ W (h.out.quiet hb) (resIn_new h.out [a,b,c] (by simp) ⟨rfl,fun _=>⟨_,rfl,by show w.heap.size<_;omega,fun j u hu=>by
  rcases(show j=0∨j=1∨j=2∨3≤j from by omega)with rfl|rfl|rfl|h3
  ·injection hu with hu;subst hu;exact cell_blk hx 0
  ·injection hu with hu;subst hu;exact cell_blk hx 1
  ·injection hu with hu;subst hu;exact cell_blk hx 2
  ·rw[List.getElem?_eq_none (by simpa using h3)]at hu;cases hu⟩⟩ (by omega)) hv hs hcl (by simp)⟩
set_option maxRecDepth 100000 in
set_option maxHeartbeats 1600000 in
theorem cbulk63 (K:KX) (vs vb:Value) (cs:List CB) (st:List UInt8) (x:XL) (w w0:World) (g:Nat) (m:MoL) (loc sp sr:Sl UInt8) (i0 i1 i2 i3 i4:Value) (h:Hid (CK w K vs vb cs st)) (he:Hid (KE w0 K g m loc sp sr)) (hv:Hid (InvP (psOf cs st))) (hs:st.length≤10000000) (hcl:cs.length≤100000) (hxi:Hid x.x.In) (hb0:Hid (Below w0.heap.size w0 w)) (hm:m.mems.l.length≤100000) (hc:x.code=63) :
  Calls Tryz.prog 111 #[.pointer (some ⟨K.cb,0,none⟩),insV2 x,.agg #[i0,i1,i2,i3,i4]] w (StP w K vs vb (bulkP ⟨m.g,loc.l,sp.l,sr.l⟩ (psOf cs st) x.x) (.tuple #[])):=by
 obtain⟨W1,hW1,hbw1,hx1,hsz1⟩:=ins_box w x
 obtain⟨ig,hig⟩:∃ig,w.heap.size=ig:=⟨_,rfl⟩
 rw[hig]at hx1
 obtain⟨W,hW2,hbw2,hx2,hsz2⟩:=box_new W1 #[i0,i1,i2,i3,i4] 199
 obtain⟨og,hog⟩:∃og,W1.heap.size=og:=⟨_,rfl⟩
 rw[hog]at hx2
 have hbw:Below w.heap.size w W:=hbw1.trans (hbw2.mono hbw1.size)
 have hx:W.heap[ig]?=some (.cells #[.int .i64 x.code,.int .u64 (x.a:Int),.int .u64 (x.b:Int),.int .i64 x.al,.slice x.l.at_ x.l.l.length x.l.cap] 131 (0,0)):=(hbw2.block ig (blk_lt hx1)).trans hx1
 have hkW:=hide (h.out.quiet hbw)
 have hnW:Hid (NW w W K.cb vs vb vs vb):=NW.of_below hbw
 have hbW0:=hide (hb0.out.trans (hbw.mono hb0.out.size))
 have hR:bulkP ⟨m.g,loc.l,sp.l,sr.l⟩ (psOf cs st) x.x=(memP ⟨m.g,loc.l,sp.l,sr.l⟩ x.a).then fun l=>.ok (pushP (psOf cs st) [adrT l]):=by
  unfold bulkP
  rw[show x.x.code=63 from hc];rfl
 rw[hR]
 obtain⟨R,hRR⟩:∃R,((memP ⟨m.g,loc.l,sp.l,sr.l⟩ x.a).then fun l=>.ok (pushP (psOf cs st) [adrT l]))=R:=⟨_,rfl⟩
 rw[hRR]
 have HR:=hide hRR
 have hINS:insV2 x=.agg #[.int .i64 63,.int .u64 (x.a:Int),.int .u64 (x.b:Int),.int .i64 x.al,.slice x.l.at_ x.l.l.length x.l.cap]:=by unfold insV2;rw[hc]
 rw[hINS]
 rw[hc]at hx hW1
 have d0:W.cell? ⟨ig,0,none⟩=some (.int .i64 63):=cell_blk hx 0
 have d1:W.cell? ⟨ig,1,none⟩=some (.int .u64 (x.a:Int)):=cell_blk hx 1
 have d2:W.cell? ⟨ig,2,none⟩=some (.int .u64 (x.b:Int)):=cell_blk hx 2
 have HX:=hide hx;have HW1:=hide hW1;have HW2:=hide hW2;have HIG:=hide hig;have HOG:=hide hog
 have ha64:=hxi.out.a
 have hb64:=hxi.out.b
 have HL:=hide (cmemory_any vs vb cs st x.a W sp.l hkW he hbW0 hm ha64)
 clear hW1 hW2 hx hx1 hx2 hig hog hbw hbw1 hbw2 hsz1 hsz2 hR hRR hINS
 cases hq:memP ⟨m.g,loc.l,sp.l,sr.l⟩ x.a with
 | bad n =>
  have hend:Hid (R=.bad n):=by show _=_;rw[←HR.out,hq];rfl
  rw[hq]at HL
  unfold ValP at HL
  simp only at HL
  clear HR hq
  go_enter Tryz.func111,Tryz.ntmps111
  go_upto_region 1 with fail
  rw[HW1.out,HIG.out,HW2.out]
  go_wp2_with fail
  refine HL.out.mono ?_;rintro e w5 ⟨rfl,h5⟩
  unfold flt
  go_wp2_with fail
  exact⟨rfl,StP.bad hend.out rfl (Bad.of (hnW.out.trans (NW.of_below h5.out)))⟩
 | ok l =>
  replace HR:Hid ((.ok (pushP (psOf cs st) [adrT l]))=R):=by show _=_;rw[←HR.out,hq];rfl
  rw[hq]at HL
  unfold ValP at HL
  simp only at HL
  clear hq
  go_enter Tryz.func111,Tryz.ntmps111
  go_upto_region 1 with fail
  rw[HW1.out,HIG.out,HW2.out]
  go_wp2_with fail
  refine HL.out.mono ?_;rintro e w3 ⟨rfl,h3⟩
  go_wp2_with fail
  refine(caddr_any l _).mono ?_;rintro e w1 ⟨rfl,h4⟩
  have h1:Hid (Below W.heap.size W w1):=h3.out.trans (h4.out.mono h3.out.size)
  have hk1:=hide (hkW.out.quiet h1.out)
  have hn1:=hide (hnW.out.trans (NW.of_below h1.out))
  have hx1:=hide ((h1.out.block ig (blk_lt HX.out)).trans HX.out)
  have e0:w1.cell? ⟨ig,0,none⟩=some (.int .i64 63):=cell_blk hx1.out 0
  have e2:w1.cell? ⟨ig,2,none⟩=some (.int .u64 (x.b:Int)):=cell_blk hx1.out 2
  obtain⟨a,hadr⟩:∃a,adrT l=a:=⟨_,rfl⟩
  rw[hadr]at HR
  rw[hadr]
  have HAT:=hide hadr
  clear HL d0 d1 d2 h3 h4 hadr
  have HSL:=hs
  obtain⟨W7,g7,hW7,hg7,HPU⟩:=cpush1 K vs vb cs st a w1 hk1 HSL
  go_wp2_with fail
  rw[hW7.out,hg7.out]
  refine HPU.out.mono ?_;rintro e7 w7 ⟨vs7,rfl,hk7,hn7⟩
  go_wp2_with fail
  go_end0
  exact StP.ok HR.out.symm rfl hk7.out (hn1.out.trans hn7.out) rfl
set_option maxRecDepth 100000 in
set_option maxHeartbeats 1600000 in
theorem cbulk64 (K:KX) (vs vb:Value) (cs:List CB) (st:List UInt8) (x:XL) (w w0:World) (g:Nat) (m:MoL) (loc sp sr:Sl UInt8) (i0 i1 i2 i3 i4:Value) (h:Hid (CK w K vs vb cs st)) (he:Hid (KE w0 K g m loc sp sr)) (hv:Hid (InvP (psOf cs st))) (hs:st.length≤10000000) (hcl:cs.length≤100000) (hxi:Hid x.x.In) (hb0:Hid (Below w0.heap.size w0 w)) (hm:m.mems.l.length≤100000) (hc:x.code=64) :
  Calls Tryz.prog 111 #[.pointer (some ⟨K.cb,0,none⟩),insV2 x,.agg #[i0,i1,i2,i3,i4]] w (StP w K vs vb (bulkP ⟨m.g,loc.l,sp.l,sr.l⟩ (psOf cs st) x.x) (.tuple #[])):=by
 obtain⟨W1,hW1,hbw1,hx1,hsz1⟩:=ins_box w x
 obtain⟨ig,hig⟩:∃ig,w.heap.size=ig:=⟨_,rfl⟩
 rw[hig]at hx1
 obtain⟨W,hW2,hbw2,hx2,hsz2⟩:=box_new W1 #[i0,i1,i2,i3,i4] 199
 obtain⟨og,hog⟩:∃og,W1.heap.size=og:=⟨_,rfl⟩
 rw[hog]at hx2
 have hbw:Below w.heap.size w W:=hbw1.trans (hbw2.mono hbw1.size)
 have hx:W.heap[ig]?=some (.cells #[.int .i64 x.code,.int .u64 (x.a:Int),.int .u64 (x.b:Int),.int .i64 x.al,.slice x.l.at_ x.l.l.length x.l.cap] 131 (0,0)):=(hbw2.block ig (blk_lt hx1)).trans hx1
 have hkW:=hide (h.out.quiet hbw)
 have hnW:Hid (NW w W K.cb vs vb vs vb):=NW.of_below hbw
 have hbW0:=hide (hb0.out.trans (hbw.mono hb0.out.size))
 have hR:bulkP ⟨m.g,loc.l,sp.l,sr.l⟩ (psOf cs st) x.x=(memP ⟨m.g,loc.l,sp.l,sr.l⟩ x.a).then fun l=>(pop1 (psOf cs st) (adrT l)).then fun s1=>.ok (pushP s1 [adrT l]):=by
  unfold bulkP
  rw[show x.x.code=64 from hc];rfl
 rw[hR]
 obtain⟨R,hRR⟩:∃R,((memP ⟨m.g,loc.l,sp.l,sr.l⟩ x.a).then fun l=>(pop1 (psOf cs st) (adrT l)).then fun s1=>.ok (pushP s1 [adrT l]))=R:=⟨_,rfl⟩
 rw[hRR]
 have HR:=hide hRR
 have hINS:insV2 x=.agg #[.int .i64 64,.int .u64 (x.a:Int),.int .u64 (x.b:Int),.int .i64 x.al,.slice x.l.at_ x.l.l.length x.l.cap]:=by unfold insV2;rw[hc]
 rw[hINS]
 rw[hc]at hx hW1
 have d0:W.cell? ⟨ig,0,none⟩=some (.int .i64 64):=cell_blk hx 0
 have d1:W.cell? ⟨ig,1,none⟩=some (.int .u64 (x.a:Int)):=cell_blk hx 1
 have d2:W.cell? ⟨ig,2,none⟩=some (.int .u64 (x.b:Int)):=cell_blk hx 2
 have HX:=hide hx;have HW1:=hide hW1;have HW2:=hide hW2;have HIG:=hide hig;have HOG:=hide hog
 have ha64:=hxi.out.a
 have hb64:=hxi.out.b
 have HL:=hide (cmemory_any vs vb cs st x.a W sp.l hkW he hbW0 hm ha64)
 clear hW1 hW2 hx hx1 hx2 hig hog hbw hbw1 hbw2 hsz1 hsz2 hR hRR hINS
 cases hq:memP ⟨m.g,loc.l,sp.l,sr.l⟩ x.a with
 | bad n =>
  have hend:Hid (R=.bad n):=by show _=_;rw[←HR.out,hq];rfl
  rw[hq]at HL
  unfold ValP at HL
  simp only at HL
  clear HR hq
  go_enter Tryz.func111,Tryz.ntmps111
  go_upto_region 1 with fail
  rw[HW1.out,HIG.out,HW2.out]
  go_wp2_with fail
  refine HL.out.mono ?_;rintro e w5 ⟨rfl,h5⟩
  unfold flt
  go_wp2_with fail
  exact⟨rfl,StP.bad hend.out rfl (Bad.of (hnW.out.trans (NW.of_below h5.out)))⟩
 | ok l =>
  replace HR:Hid (((pop1 (psOf cs st) (adrT l)).then fun s1=>.ok (pushP s1 [adrT l]))=R):=by show _=_;rw[←HR.out,hq];rfl
  rw[hq]at HL
  unfold ValP at HL
  simp only at HL
  clear hq
  go_enter Tryz.func111,Tryz.ntmps111
  go_upto_region 1 with fail
  rw[HW1.out,HIG.out,HW2.out]
  go_wp2_with fail
  refine HL.out.mono ?_;rintro e w3 ⟨rfl,h3⟩
  go_wp2_with fail
  refine(caddr_any l _).mono ?_;rintro e w1 ⟨rfl,h4⟩
  have h1:Hid (Below W.heap.size W w1):=h3.out.trans (h4.out.mono h3.out.size)
  have hk1:=hide (hkW.out.quiet h1.out)
  have hn1:=hide (hnW.out.trans (NW.of_below h1.out))
  have hx1:=hide ((h1.out.block ig (blk_lt HX.out)).trans HX.out)
  have e0:w1.cell? ⟨ig,0,none⟩=some (.int .i64 64):=cell_blk hx1.out 0
  have e2:w1.cell? ⟨ig,2,none⟩=some (.int .u64 (x.b:Int)):=cell_blk hx1.out 2
  obtain⟨a,hadr⟩:∃a,adrT l=a:=⟨_,rfl⟩
  rw[hadr]at HR
  rw[hadr]
  have HAT:=hide hadr
  clear HL d0 d1 d2 h3 h4 hadr
  have HP:=hide (cpop_any K vs vb cs st a w1 hk1 hv.out hs hcl)
  unfold pop1 at HR
  have hpk:=fun q (hq:popP (psOf cs st) a=.ok q)=>popP_ok hq hv.out
  cases hq:popP (psOf cs st) a with
  | bad n =>
   rw[hq]at HP HR
   simp only at HP
   have hend:Hid (R=.bad n):=HR.out.symm
   clear hq hpk HR
   go_wp2_with fail
   refine HP.out.mono ?_;rintro e5 w5 ⟨rfl,h5⟩
   unfold flt
   go_wp2_with fail
   exact⟨rfl,StP.bad hend.out rfl ((NW.bad hn1.out h5.out))⟩
  | ok q =>
   obtain⟨i1,i2,i3⟩:=hpk q hq
   rw[hq]at HP HR
   simp only at HP
   replace HR:Hid (.ok (pushP q.1 [a])=R):=HR
   have HSL:q.1.st.length≤10000000:=Nat.le_trans i3 hs
   clear hq hpk i1 i2 i3
   go_wp2_with fail
   refine HP.out.mono ?_;rintro e5 w5 ⟨vs5,rfl,hk5,hn5,hbl5⟩
   have hnn:=hide (hn1.out.trans hn5.out)
   have HBL:=hide hbl5
   clear HP hbl5
   obtain⟨W7,g7,hW7,hg7,HPU⟩:=cpush1 K vs5 vb cs q.1.st a w5 hk5 HSL
   go_wp2_with fail
   rw[hW7.out,hg7.out]
   refine HPU.out.mono ?_;rintro e7 w7 ⟨vs7,rfl,hk7,hn7⟩
   go_wp2_with fail
   go_end0
   exact StP.ok HR.out.symm rfl hk7.out (hnn.out.trans hn7.out) HBL.out
set_option maxRecDepth 100000 in
set_option maxHeartbeats 1600000 in
theorem cbulk523 (K:KX) (vs vb:Value) (cs:List CB) (st:List UInt8) (x:XL) (w w0:World) (g:Nat) (m:MoL) (loc sp sr:Sl UInt8) (i0 i1 i2 i3 i4:Value) (h:Hid (CK w K vs vb cs st)) (he:Hid (KE w0 K g m loc sp sr)) (hv:Hid (InvP (psOf cs st))) (hs:st.length≤10000000) (hcl:cs.length≤100000) (hxi:Hid x.x.In) (hb0:Hid (Below w0.heap.size w0 w)) (hm:m.mems.l.length≤100000) (hc:x.code=64523) :
  Calls Tryz.prog 111 #[.pointer (some ⟨K.cb,0,none⟩),insV2 x,.agg #[i0,i1,i2,i3,i4]] w (StP w K vs vb (bulkP ⟨m.g,loc.l,sp.l,sr.l⟩ (psOf cs st) x.x) (.tuple #[])):=by
 obtain⟨W1,hW1,hbw1,hx1,hsz1⟩:=ins_box w x
 obtain⟨ig,hig⟩:∃ig,w.heap.size=ig:=⟨_,rfl⟩
 rw[hig]at hx1
 obtain⟨W,hW2,hbw2,hx2,hsz2⟩:=box_new W1 #[i0,i1,i2,i3,i4] 199
 obtain⟨og,hog⟩:∃og,W1.heap.size=og:=⟨_,rfl⟩
 rw[hog]at hx2
 have hbw:Below w.heap.size w W:=hbw1.trans (hbw2.mono hbw1.size)
 have hx:W.heap[ig]?=some (.cells #[.int .i64 x.code,.int .u64 (x.a:Int),.int .u64 (x.b:Int),.int .i64 x.al,.slice x.l.at_ x.l.l.length x.l.cap] 131 (0,0)):=(hbw2.block ig (blk_lt hx1)).trans hx1
 have hkW:=hide (h.out.quiet hbw)
 have hnW:Hid (NW w W K.cb vs vb vs vb):=NW.of_below hbw
 have hbW0:=hide (hb0.out.trans (hbw.mono hb0.out.size))
 have hR:bulkP ⟨m.g,loc.l,sp.l,sr.l⟩ (psOf cs st) x.x=(memP ⟨m.g,loc.l,sp.l,sr.l⟩ x.a).then fun l=>popsP (psOf cs st) [adrT l,127,adrT l]:=by
  unfold bulkP
  rw[show x.x.code=64523 from hc];rfl
 rw[hR]
 obtain⟨R,hRR⟩:∃R,((memP ⟨m.g,loc.l,sp.l,sr.l⟩ x.a).then fun l=>popsP (psOf cs st) [adrT l,127,adrT l])=R:=⟨_,rfl⟩
 rw[hRR]
 have HR:=hide hRR
 have hINS:insV2 x=.agg #[.int .i64 64523,.int .u64 (x.a:Int),.int .u64 (x.b:Int),.int .i64 x.al,.slice x.l.at_ x.l.l.length x.l.cap]:=by unfold insV2;rw[hc]
 rw[hINS]
 rw[hc]at hx hW1
 have d0:W.cell? ⟨ig,0,none⟩=some (.int .i64 64523):=cell_blk hx 0
 have d1:W.cell? ⟨ig,1,none⟩=some (.int .u64 (x.a:Int)):=cell_blk hx 1
 have d2:W.cell? ⟨ig,2,none⟩=some (.int .u64 (x.b:Int)):=cell_blk hx 2
 have HX:=hide hx;have HW1:=hide hW1;have HW2:=hide hW2;have HIG:=hide hig;have HOG:=hide hog
 have ha64:=hxi.out.a
 have hb64:=hxi.out.b
 have HL:=hide (cmemory_any vs vb cs st x.a W sp.l hkW he hbW0 hm ha64)
 clear hW1 hW2 hx hx1 hx2 hig hog hbw hbw1 hbw2 hsz1 hsz2 hR hRR hINS
 cases hq:memP ⟨m.g,loc.l,sp.l,sr.l⟩ x.a with
 | bad n =>
  have hend:Hid (R=.bad n):=by show _=_;rw[←HR.out,hq];rfl
  rw[hq]at HL
  unfold ValP at HL
  simp only at HL
  clear HR hq
  go_enter Tryz.func111,Tryz.ntmps111
  go_upto_region 1 with fail
  rw[HW1.out,HIG.out,HW2.out]
  go_wp2_with fail
  refine HL.out.mono ?_;rintro e w5 ⟨rfl,h5⟩
  unfold flt
  go_wp2_with fail
  exact⟨rfl,StP.bad hend.out rfl (Bad.of (hnW.out.trans (NW.of_below h5.out)))⟩
 | ok l =>
  replace HR:Hid ((popsP (psOf cs st) [adrT l,127,adrT l])=R):=by show _=_;rw[←HR.out,hq];rfl
  rw[hq]at HL
  unfold ValP at HL
  simp only at HL
  clear hq
  go_enter Tryz.func111,Tryz.ntmps111
  go_upto_region 1 with fail
  rw[HW1.out,HIG.out,HW2.out]
  go_wp2_with fail
  refine HL.out.mono ?_;rintro e w3 ⟨rfl,h3⟩
  go_wp2_with fail
  refine(caddr_any l _).mono ?_;rintro e w1 ⟨rfl,h4⟩
  have h1:Hid (Below W.heap.size W w1):=h3.out.trans (h4.out.mono h3.out.size)
  have hk1:=hide (hkW.out.quiet h1.out)
  have hn1:=hide (hnW.out.trans (NW.of_below h1.out))
  have hx1:=hide ((h1.out.block ig (blk_lt HX.out)).trans HX.out)
  have e0:w1.cell? ⟨ig,0,none⟩=some (.int .i64 64523):=cell_blk hx1.out 0
  have e2:w1.cell? ⟨ig,2,none⟩=some (.int .u64 (x.b:Int)):=cell_blk hx1.out 2
  obtain⟨a,hadr⟩:∃a,adrT l=a:=⟨_,rfl⟩
  rw[hadr]at HR
  rw[hadr]
  have HAT:=hide hadr
  clear HL d0 d1 d2 h3 h4 hadr
  obtain⟨W7,g7,hW7,hg7,hn7,HPS⟩:=cpops3 K vs vb cs st a 127 a w1 hk1 hv hs hcl
  replace hW7:Hid (w1.alloc (.cells #[.int .u8 (a.toNat:Int),.int .u8 127,.int .u8 (a.toNat:Int)] 133)=W7):=hW7
  have HN:=hn1
  cases hq:popsP (psOf cs st) [a,127,a] with
  | bad n =>
   rw[hq]at HPS HR
   unfold StQ at HPS
   simp only at HPS
   have hend:Hid (R=.bad n):=HR.out.symm
   clear hq HR
   go_wp2_with fail
   rw[hW7.out,hg7.out]
   refine HPS.out.mono ?_;rintro e6 w6 ⟨rfl,h6⟩
   unfold flt
   go_wp2_with fail
   exact⟨rfl,StP.bad hend.out rfl ((NW.bad (HN.out.trans hn7.out) h6.out))⟩
  | ok s2 =>
   rw[hq]at HPS HR
   unfold StQ at HPS
   simp only at HPS
   have hend:Hid (R=.ok s2):=HR.out.symm
   clear hq HR
   go_wp2_with fail
   rw[hW7.out,hg7.out]
   refine HPS.out.mono ?_;rintro e6 w6 ⟨vs6,rfl,hk6,hn6,hbl6⟩
   go_wp2_with fail
   go_end0
   exact StP.ok hend.out rfl hk6.out ((HN.out.trans hn7.out).trans hn6.out) hbl6.out
set_option maxRecDepth 100000 in
set_option maxHeartbeats 1600000 in
theorem cbulkx (K:KX) (vs vb:Value) (cs:List CB) (st:List UInt8) (x:XL) (w w0:World) (g:Nat) (m:MoL) (loc sp sr:Sl UInt8) (i0 i1 i2 i3 i4:Value) (h:Hid (CK w K vs vb cs st)) (he:Hid (KE w0 K g m loc sp sr)) (hv:Hid (InvP (psOf cs st))) (hs:st.length≤10000000) (hcl:cs.length≤100000) (hxi:Hid x.x.In) (hb0:Hid (Below w0.heap.size w0 w)) (hm:m.mems.l.length≤100000) (hc:x.code≠63∧x.code≠64∧x.code≠64523) :
  Calls Tryz.prog 111 #[.pointer (some ⟨K.cb,0,none⟩),insV2 x,.agg #[i0,i1,i2,i3,i4]] w (StP w K vs vb (bulkP ⟨m.g,loc.l,sp.l,sr.l⟩ (psOf cs st) x.x) (.tuple #[])):=by
 obtain⟨W1,hW1,hbw1,hx1,hsz1⟩:=ins_box w x
 obtain⟨ig,hig⟩:∃ig,w.heap.size=ig:=⟨_,rfl⟩
 rw[hig]at hx1
 obtain⟨W,hW2,hbw2,hx2,hsz2⟩:=box_new W1 #[i0,i1,i2,i3,i4] 199
 obtain⟨og,hog⟩:∃og,W1.heap.size=og:=⟨_,rfl⟩
 rw[hog]at hx2
 have hbw:Below w.heap.size w W:=hbw1.trans (hbw2.mono hbw1.size)
 have hx:W.heap[ig]?=some (.cells #[.int .i64 x.code,.int .u64 (x.a:Int),.int .u64 (x.b:Int),.int .i64 x.al,.slice x.l.at_ x.l.l.length x.l.cap] 131 (0,0)):=(hbw2.block ig (blk_lt hx1)).trans hx1
 have hkW:=hide (h.out.quiet hbw)
 have hnW:Hid (NW w W K.cb vs vb vs vb):=NW.of_below hbw
 have hbW0:=hide (hb0.out.trans (hbw.mono hb0.out.size))
 have hR:bulkP ⟨m.g,loc.l,sp.l,sr.l⟩ (psOf cs st) x.x=(memP ⟨m.g,loc.l,sp.l,sr.l⟩ x.a).then fun l=>(memP ⟨m.g,loc.l,sp.l,sr.l⟩ x.b).then fun k=>popsP (psOf cs st) [adrT l,adrT k,if adrT l=126∧adrT k=126 then 126 else 127]:=by
  unfold bulkP
  congr 1;funext l;rw[if_neg (show ¬x.x.code=63 from hc.1),if_neg (show ¬x.x.code=64 from hc.2.1),if_neg (show ¬x.x.code=64523 from hc.2.2)];rfl
 rw[hR]
 obtain⟨R,hRR⟩:∃R,((memP ⟨m.g,loc.l,sp.l,sr.l⟩ x.a).then fun l=>(memP ⟨m.g,loc.l,sp.l,sr.l⟩ x.b).then fun k=>popsP (psOf cs st) [adrT l,adrT k,if adrT l=126∧adrT k=126 then 126 else 127])=R:=⟨_,rfl⟩
 rw[hRR]
 have HR:=hide hRR
 unfold insV2
 have d0:W.cell? ⟨ig,0,none⟩=some (.int .i64 x.code):=cell_blk hx 0
 have d1:W.cell? ⟨ig,1,none⟩=some (.int .u64 (x.a:Int)):=cell_blk hx 1
 have d2:W.cell? ⟨ig,2,none⟩=some (.int .u64 (x.b:Int)):=cell_blk hx 2
 have HX:=hide hx;have HW1:=hide hW1;have HW2:=hide hW2;have HIG:=hide hig;have HOG:=hide hog
 have t63:(x.code==63)=false:=by simpa using hc.1
 have t64:(x.code==64)=false:=by simpa using hc.2.1
 have t65:(x.code==64523)=false:=by simpa using hc.2.2
 clear hc
 have ha64:=hxi.out.a
 have hb64:=hxi.out.b
 have HL:=hide (cmemory_any vs vb cs st x.a W sp.l hkW he hbW0 hm ha64)
 clear hW1 hW2 hx hx1 hx2 hig hog hbw hbw1 hbw2 hsz1 hsz2 hR hRR
 cases hq:memP ⟨m.g,loc.l,sp.l,sr.l⟩ x.a with
 | bad n =>
  have hend:Hid (R=.bad n):=by show _=_;rw[←HR.out,hq];rfl
  rw[hq]at HL
  unfold ValP at HL
  simp only at HL
  clear HR hq
  go_enter Tryz.func111,Tryz.ntmps111
  go_upto_region 1 with fail
  rw[HW1.out,HIG.out,HW2.out]
  go_wp2_with fail
  refine HL.out.mono ?_;rintro e w5 ⟨rfl,h5⟩
  unfold flt
  go_wp2_with fail
  exact⟨rfl,StP.bad hend.out rfl (Bad.of (hnW.out.trans (NW.of_below h5.out)))⟩
 | ok l =>
  replace HR:Hid (((memP ⟨m.g,loc.l,sp.l,sr.l⟩ x.b).then fun k=>popsP (psOf cs st) [adrT l,adrT k,if adrT l=126∧adrT k=126 then 126 else 127])=R):=by show _=_;rw[←HR.out,hq];rfl
  rw[hq]at HL
  unfold ValP at HL
  simp only at HL
  clear hq
  go_enter Tryz.func111,Tryz.ntmps111
  go_upto_region 1 with fail
  rw[HW1.out,HIG.out,HW2.out]
  go_wp2_with fail
  refine HL.out.mono ?_;rintro e w3 ⟨rfl,h3⟩
  go_wp2_with fail
  refine(caddr_any l _).mono ?_;rintro e w1 ⟨rfl,h4⟩
  have h1:Hid (Below W.heap.size W w1):=h3.out.trans (h4.out.mono h3.out.size)
  have hk1:=hide (hkW.out.quiet h1.out)
  have hn1:=hide (hnW.out.trans (NW.of_below h1.out))
  have hx1:=hide ((h1.out.block ig (blk_lt HX.out)).trans HX.out)
  have e0:w1.cell? ⟨ig,0,none⟩=some (.int .i64 x.code):=cell_blk hx1.out 0
  have e2:w1.cell? ⟨ig,2,none⟩=some (.int .u64 (x.b:Int)):=cell_blk hx1.out 2
  obtain⟨a,hadr⟩:∃a,adrT l=a:=⟨_,rfl⟩
  rw[hadr]at HR
  rw[hadr]
  have HAT:=hide hadr
  clear HL d0 d1 d2 h3 h4 hadr
  have hbw1:=hide (hbW0.out.trans (h1.out.mono hbW0.out.size))
  have HL2:=hide (cmemory_any vs vb cs st x.b w1 sp.l hk1 he hbw1 hm hb64)
  cases hq2:memP ⟨m.g,loc.l,sp.l,sr.l⟩ x.b with
  | bad n =>
   have hend:Hid (R=.bad n):=by show _=_;rw[←HR.out,hq2];rfl
   rw[hq2]at HL2
   unfold ValP at HL2
   simp only at HL2
   clear HR hq2
   go_wp2_with fail
   refine HL2.out.mono ?_;rintro e w5 ⟨rfl,h5⟩
   unfold flt
   go_wp2_with fail
   exact⟨rfl,StP.bad hend.out rfl (Bad.of (hn1.out.trans (NW.of_below h5.out)))⟩
  | ok l2 =>
   replace HR:Hid (popsP (psOf cs st) [a,adrT l2,if a=126∧adrT l2=126 then 126 else 127]=R):=by show _=_;rw[←HR.out,hq2];rfl
   rw[hq2]at HL2
   unfold ValP at HL2
   simp only at HL2
   clear hq2
   go_wp2_with fail
   refine HL2.out.mono ?_;rintro e w5 ⟨rfl,h5⟩
   go_wp2_with fail
   refine(caddr_any l2 _).mono ?_;rintro e w6 ⟨rfl,h6⟩
   have h7:Hid (Below w1.heap.size w1 w6):=h5.out.trans (h6.out.mono h5.out.size)
   have hk6:=hide (hk1.out.quiet h7.out)
   have HN:=hide (hn1.out.trans (NW.of_below h7.out))
   obtain⟨b,hb⟩:∃b,adrT l2=b:=⟨_,rfl⟩
   rw[hb]at HR
   rw[hb]
   clear HL2 h5 h6 h7 hb e0 e2
   have tb:=beq8 b 126
   have ta:=beq8 a 126
   rw[show ((126:UInt8).toNat:Int)=126 from rfl]at ta tb
   by_cases ha:a=126
   ·have ta2:(a==126)=true:=by simp[ha]
    rw[ta2]at ta
    by_cases hb:b=126
    ·have tb2:(b==126)=true:=by simp[hb]
     rw[tb2]at tb
     rw[if_pos ⟨ha,hb⟩]at HR
     obtain⟨W7,g7,hW7,hg7,hn7,HPS⟩:=cpops3 K vs vb cs st a b 126 w6 hk6 hv hs hcl
     replace hW7:Hid (w6.alloc (.cells #[.int .u8 (a.toNat:Int),.int .u8 (b.toNat:Int),.int .u8 126] 133)=W7):=hW7
     clear ha hb ta2 tb2
     cases hq:popsP (psOf cs st) [a,b,126] with
     | bad n =>
      rw[hq]at HPS HR
      unfold StQ at HPS
      simp only at HPS
      have hend:Hid (R=.bad n):=HR.out.symm
      clear hq HR
      go_wp2_with fail
      rw[hW7.out,hg7.out]
      refine HPS.out.mono ?_;rintro e6 w6 ⟨rfl,h6⟩
      unfold flt
      go_wp2_with fail
      exact⟨rfl,StP.bad hend.out rfl ((NW.bad (HN.out.trans hn7.out) h6.out))⟩
     | ok s2 =>
      rw[hq]at HPS HR
      unfold StQ at HPS
      simp only at HPS
      have hend:Hid (R=.ok s2):=HR.out.symm
      clear hq HR
      go_wp2_with fail
      rw[hW7.out,hg7.out]
      refine HPS.out.mono ?_;rintro e6 w6 ⟨vs6,rfl,hk6,hn6,hbl6⟩
      go_wp2_with fail
      go_end0
      exact StP.ok hend.out rfl hk6.out ((HN.out.trans hn7.out).trans hn6.out) hbl6.out
    ·have tb2:(b==126)=false:=by simp[hb]
     rw[tb2]at tb
     rw[if_neg (fun h=>hb h.2)]at HR
     obtain⟨W7,g7,hW7,hg7,hn7,HPS⟩:=cpops3 K vs vb cs st a b 127 w6 hk6 hv hs hcl
     replace hW7:Hid (w6.alloc (.cells #[.int .u8 (a.toNat:Int),.int .u8 (b.toNat:Int),.int .u8 127] 133)=W7):=hW7
     clear ha hb ta2 tb2
     cases hq:popsP (psOf cs st) [a,b,127] with
     | bad n =>
      rw[hq]at HPS HR
      unfold StQ at HPS
      simp only at HPS
      have hend:Hid (R=.bad n):=HR.out.symm
      clear hq HR
      go_wp2_with fail
      rw[hW7.out,hg7.out]
      refine HPS.out.mono ?_;rintro e6 w6 ⟨rfl,h6⟩
      unfold flt
      go_wp2_with fail
      exact⟨rfl,StP.bad hend.out rfl ((NW.bad (HN.out.trans hn7.out) h6.out))⟩
     | ok s2 =>
      rw[hq]at HPS HR
      unfold StQ at HPS
      simp only at HPS
      have hend:Hid (R=.ok s2):=HR.out.symm
      clear hq HR
      go_wp2_with fail
      rw[hW7.out,hg7.out]
      refine HPS.out.mono ?_;rintro e6 w6 ⟨vs6,rfl,hk6,hn6,hbl6⟩
      go_wp2_with fail
      go_end0
      exact StP.ok hend.out rfl hk6.out ((HN.out.trans hn7.out).trans hn6.out) hbl6.out
   ·have ta2:(a==126)=false:=by simp[ha]
    rw[ta2]at ta
    rw[if_neg (fun h=>ha h.1)]at HR
    obtain⟨W7,g7,hW7,hg7,hn7,HPS⟩:=cpops3 K vs vb cs st a b 127 w6 hk6 hv hs hcl
    replace hW7:Hid (w6.alloc (.cells #[.int .u8 (a.toNat:Int),.int .u8 (b.toNat:Int),.int .u8 127] 133)=W7):=hW7
    clear ha ta2 tb
    cases hq:popsP (psOf cs st) [a,b,127] with
    | bad n =>
     rw[hq]at HPS HR
     unfold StQ at HPS
     simp only at HPS
     have hend:Hid (R=.bad n):=HR.out.symm
     clear hq HR
     go_wp2_with fail
     rw[hW7.out,hg7.out]
     refine HPS.out.mono ?_;rintro e6 w6 ⟨rfl,h6⟩
     unfold flt
     go_wp2_with fail
     exact⟨rfl,StP.bad hend.out rfl ((NW.bad (HN.out.trans hn7.out) h6.out))⟩
    | ok s2 =>
     rw[hq]at HPS HR
     unfold StQ at HPS
     simp only at HPS
     have hend:Hid (R=.ok s2):=HR.out.symm
     clear hq HR
     go_wp2_with fail
     rw[hW7.out,hg7.out]
     refine HPS.out.mono ?_;rintro e6 w6 ⟨vs6,rfl,hk6,hn6,hbl6⟩
     go_wp2_with fail
     go_end0
     exact StP.ok hend.out rfl hk6.out ((HN.out.trans hn7.out).trans hn6.out) hbl6.out
theorem cbulk_any (K:KX) (vs vb:Value) (cs:List CB) (st:List UInt8) (x:XL) (w w0:World) (g:Nat) (m:MoL) (loc sp sr:Sl UInt8) (i0 i1 i2 i3 i4:Value) (h:Hid (CK w K vs vb cs st)) (he:Hid (KE w0 K g m loc sp sr)) (hv:Hid (InvP (psOf cs st))) (hs:st.length≤10000000) (hcl:cs.length≤100000) (hxi:Hid x.x.In) (hb0:Hid (Below w0.heap.size w0 w)) (hm:m.mems.l.length≤100000) :
  Calls Tryz.prog 111 #[.pointer (some ⟨K.cb,0,none⟩),insV2 x,.agg #[i0,i1,i2,i3,i4]] w (StP w K vs vb (bulkP ⟨m.g,loc.l,sp.l,sr.l⟩ (psOf cs st) x.x) (.tuple #[])):=by
 by_cases h1:x.code=63
 ·exact cbulk63 K vs vb cs st x w w0 g m loc sp sr i0 i1 i2 i3 i4 h he hv hs hcl hxi hb0 hm h1
 by_cases h2:x.code=64
 ·exact cbulk64 K vs vb cs st x w w0 g m loc sp sr i0 i1 i2 i3 i4 h he hv hs hcl hxi hb0 hm h2
 by_cases h3:x.code=64523
 ·exact cbulk523 K vs vb cs st x w w0 g m loc sp sr i0 i1 i2 i3 i4 h he hv hs hcl hxi hb0 hm h3
 exact cbulkx K vs vb cs st x w w0 g m loc sp sr i0 i1 i2 i3 i4 h he hv hs hcl hxi hb0 hm ⟨h1,h2,h3⟩
end Go.Proofs.YtomppgohoplemaaGreat
