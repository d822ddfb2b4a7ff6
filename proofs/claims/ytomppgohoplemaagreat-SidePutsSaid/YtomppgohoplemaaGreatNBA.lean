import Derived.Test.YtomppgohoplemaaGreatNAZ
import Derived.Test.YtomppgohoplemaaGreatRows
import Derived.Test.YtomppgohoplemaaGreatNAA
import Derived.Test.YtomppgohoplemaaGreatNAH
import Derived.Maps.RangeWalk
import Derived.Deep.DeepCutAuto
import Derived.IntWalk
import Derived.Outline
set_option linter.unusedVariables false
namespace Go.Proofs.YtomppgohoplemaaGreat
open Go.RowKit
theorem cpush1 (K:KX) (vs vb:Value) (cs:List CB) (st:List UInt8) (t:UInt8) (w:World) (h:Hid (CK w K vs vb cs st)) (hs:st.length≤10000000) :
  ∃W g,Hid (w.alloc (.cells #[.int .u8 (t.toNat:Int)] 133)=W)∧Hid (w.heap.size=g) ∧
   Hid (Calls Tryz.prog 134 #[.pointer (some ⟨K.cb,0,none⟩),.slice (some ⟨g,0,none⟩) 1 1] W fun e w'=>∃vs',e=.returned (.tuple #[])∧Hid (CK w' K vs' vb cs (st++[t]))∧Hid (NW w w' K.cb vs vb vs' vb)):=by
 obtain⟨W,hW,hb,hx,hsz⟩:=box_new w #[.int .u8 (t.toNat:Int)] 133
 refine⟨W,_,hW,rfl,?_⟩
 have hr:Reads W W.heap.size 1 (some ⟨w.heap.size,0,none⟩) 1 ([t].map B):=⟨rfl,fun _=>⟨_,rfl,by show w.heap.size<_;omega,fun j u hu=>by
  cases j with
  | zero =>
   injection hu with hu
   subst hu
   exact cell_blk hx 0
  | succ j=>simp at hu⟩⟩
 refine(cpush_any K vs vb cs st (some ⟨w.heap.size,0,none⟩) 1 1 [t] W (h.out.quiet hb) hr rfl hs (by omega)).mono ?_
 rintro e w' ⟨vs',rfl,hk,hn⟩
 exact⟨vs',rfl,hk,(NW.of_below hb).trans hn.out⟩
set_option maxRecDepth 100000 in
set_option maxHeartbeats 1600000 in
theorem cvar32 (K:KX) (vs vb:Value) (cs:List CB) (st:List UInt8) (x:XL) (w w0:World) (g:Nat) (m:MoL) (loc sp sr:Sl UInt8) (h:Hid (CK w K vs vb cs st)) (he:Hid (KE w0 K g m loc sp sr)) (hv:Hid (InvP (psOf cs st))) (hs:st.length≤10000000) (hcl:cs.length≤100000) (hxi:Hid x.x.In) (hb0:Hid (Below w0.heap.size w0 w)) (hl:loc.l.length≤100000) (hg:m.gls.l.length≤100000) (hc:x.code=32) :
  Calls Tryz.prog 108 #[.pointer (some ⟨K.cb,0,none⟩),insV2 x] w (StP w K vs vb (variableP ⟨m.g,loc.l,sp.l,sr.l⟩ (psOf cs st) x.x) (.bool true)):=by
 obtain⟨W,hW,hbw,hx,hsz⟩:=ins_box w x
 obtain⟨ig,hig⟩:∃ig,w.heap.size=ig:=⟨_,rfl⟩
 rw[hig]at hx
 have hkW:=hide (h.out.quiet hbw)
 have hnW:Hid (NW w W K.cb vs vb vs vb):=NW.of_below hbw
 have hbW0:=hide (hb0.out.trans (hbw.mono hb0.out.size))
 have hINS:insV2 x=.agg #[.int .i64 32,.int .u64 (x.a:Int),.int .u64 (x.b:Int),.int .i64 x.al,.slice x.l.at_ x.l.l.length x.l.cap]:=by unfold insV2;rw[hc]
 have hR:variableP ⟨m.g,loc.l,sp.l,sr.l⟩ (psOf cs st) x.x=(localP ⟨m.g,loc.l,sp.l,sr.l⟩ x.a).then fun t=>.ok (pushP (psOf cs st) [t]):=by unfold variableP;rw[show x.x.code=32 from hc];rfl
 rw[hR,hINS]
 obtain⟨R,hRR⟩:∃R,((localP ⟨m.g,loc.l,sp.l,sr.l⟩ x.a).then fun t=>.ok (pushP (psOf cs st) [t]))=R:=⟨_,rfl⟩
 rw[hRR]
 have HR:=hide hRR
 rw[hc]at hx hW
 have d0:W.cell? ⟨ig,0,none⟩=some (.int .i64 32):=cell_blk hx 0
 have d1:W.cell? ⟨ig,1,none⟩=some (.int .u64 (x.a:Int)):=cell_blk hx 1
 have d2:W.cell? ⟨ig,2,none⟩=some (.int .u64 (x.b:Int)):=cell_blk hx 2
 have HX:=hide hx;have HW:=hide hW;have HIG:=hide hig;have HINS:=hide hINS
 have ha64:=hxi.out.a
 have HL:=hide (clocal_any vs vb cs st x.a W sp.l hkW he hbW0 hl ha64)
 clear hW hx hig hbw hsz hR hINS hRR
 cases hq:localP ⟨m.g,loc.l,sp.l,sr.l⟩ x.a with
 | bad n =>
  have hend:Hid (R=.bad n):=by show _=_;rw[←HR.out,hq];rfl
  rw[hq]at HL
  unfold ValP at HL
  simp only at HL
  clear HR hq
  go_enter Tryz.func108,Tryz.ntmps108
  go_upto_region 1 with fail
  rw[HW.out,HIG.out]
  go_wp2_with fail
  refine HL.out.mono ?_;rintro e w5 ⟨rfl,h5⟩
  unfold flt
  go_wp2_with fail
  exact⟨rfl,StP.bad hend.out rfl (Bad.of (hnW.out.trans (NW.of_below h5.out)))⟩
 | ok t =>
  replace HR:Hid ((.ok (pushP (psOf cs st) [t]))=R):=by show _=_;rw[←HR.out,hq];rfl
  rw[hq]at HL
  unfold ValP at HL
  simp only at HL
  clear hq
  go_enter Tryz.func108,Tryz.ntmps108
  go_upto_region 1 with fail
  rw[HW.out,HIG.out]
  go_wp2_with fail
  refine HL.out.mono ?_;rintro e w1 ⟨rfl,h1⟩
  have hk1:=hide (hkW.out.quiet h1.out)
  have hn1:=hide (hnW.out.trans (NW.of_below h1.out))
  have HSL:=hs
  clear HL
  obtain⟨W7,g7,hW7,hg7,HPU⟩:=cpush1 K vs vb cs st t w1 hk1 HSL
  go_wp2_with fail
  rw[hW7.out,hg7.out]
  refine HPU.out.mono ?_;rintro e7 w7 ⟨vs7,rfl,hk7,hn7⟩
  go_wp2_with fail
  go_ret
  exact StP.ok HR.out.symm rfl hk7.out (hn1.out.trans hn7.out) rfl
set_option maxRecDepth 100000 in
set_option maxHeartbeats 1600000 in
theorem cvar33 (K:KX) (vs vb:Value) (cs:List CB) (st:List UInt8) (x:XL) (w w0:World) (g:Nat) (m:MoL) (loc sp sr:Sl UInt8) (h:Hid (CK w K vs vb cs st)) (he:Hid (KE w0 K g m loc sp sr)) (hv:Hid (InvP (psOf cs st))) (hs:st.length≤10000000) (hcl:cs.length≤100000) (hxi:Hid x.x.In) (hb0:Hid (Below w0.heap.size w0 w)) (hl:loc.l.length≤100000) (hg:m.gls.l.length≤100000) (hc:x.code=33) :
  Calls Tryz.prog 108 #[.pointer (some ⟨K.cb,0,none⟩),insV2 x] w (StP w K vs vb (variableP ⟨m.g,loc.l,sp.l,sr.l⟩ (psOf cs st) x.x) (.bool true)):=by
 obtain⟨W,hW,hbw,hx,hsz⟩:=ins_box w x
 obtain⟨ig,hig⟩:∃ig,w.heap.size=ig:=⟨_,rfl⟩
 rw[hig]at hx
 have hkW:=hide (h.out.quiet hbw)
 have hnW:Hid (NW w W K.cb vs vb vs vb):=NW.of_below hbw
 have hbW0:=hide (hb0.out.trans (hbw.mono hb0.out.size))
 have hINS:insV2 x=.agg #[.int .i64 33,.int .u64 (x.a:Int),.int .u64 (x.b:Int),.int .i64 x.al,.slice x.l.at_ x.l.l.length x.l.cap]:=by unfold insV2;rw[hc]
 have hR:variableP ⟨m.g,loc.l,sp.l,sr.l⟩ (psOf cs st) x.x=(localP ⟨m.g,loc.l,sp.l,sr.l⟩ x.a).then fun t=>pop1 (psOf cs st) t:=by unfold variableP;rw[show x.x.code=33 from hc];rfl
 rw[hR,hINS]
 obtain⟨R,hRR⟩:∃R,((localP ⟨m.g,loc.l,sp.l,sr.l⟩ x.a).then fun t=>pop1 (psOf cs st) t)=R:=⟨_,rfl⟩
 rw[hRR]
 have HR:=hide hRR
 rw[hc]at hx hW
 have d0:W.cell? ⟨ig,0,none⟩=some (.int .i64 33):=cell_blk hx 0
 have d1:W.cell? ⟨ig,1,none⟩=some (.int .u64 (x.a:Int)):=cell_blk hx 1
 have d2:W.cell? ⟨ig,2,none⟩=some (.int .u64 (x.b:Int)):=cell_blk hx 2
 have HX:=hide hx;have HW:=hide hW;have HIG:=hide hig;have HINS:=hide hINS
 have ha64:=hxi.out.a
 have HL:=hide (clocal_any vs vb cs st x.a W sp.l hkW he hbW0 hl ha64)
 clear hW hx hig hbw hsz hR hINS hRR
 cases hq:localP ⟨m.g,loc.l,sp.l,sr.l⟩ x.a with
 | bad n =>
  have hend:Hid (R=.bad n):=by show _=_;rw[←HR.out,hq];rfl
  rw[hq]at HL
  unfold ValP at HL
  simp only at HL
  clear HR hq
  go_enter Tryz.func108,Tryz.ntmps108
  go_upto_region 1 with fail
  rw[HW.out,HIG.out]
  go_wp2_with fail
  refine HL.out.mono ?_;rintro e w5 ⟨rfl,h5⟩
  unfold flt
  go_wp2_with fail
  exact⟨rfl,StP.bad hend.out rfl (Bad.of (hnW.out.trans (NW.of_below h5.out)))⟩
 | ok t =>
  replace HR:Hid ((pop1 (psOf cs st) t)=R):=by show _=_;rw[←HR.out,hq];rfl
  rw[hq]at HL
  unfold ValP at HL
  simp only at HL
  clear hq
  go_enter Tryz.func108,Tryz.ntmps108
  go_upto_region 1 with fail
  rw[HW.out,HIG.out]
  go_wp2_with fail
  refine HL.out.mono ?_;rintro e w1 ⟨rfl,h1⟩
  have hk1:=hide (hkW.out.quiet h1.out)
  have hn1:=hide (hnW.out.trans (NW.of_below h1.out))
  clear HL
  have HP:=hide (cpop_any K vs vb cs st t w1 hk1 hv.out hs hcl)
  unfold pop1 at HR
  have hpk:=fun q (hq:popP (psOf cs st) t=.ok q)=>popP_ok hq hv.out
  cases hq:popP (psOf cs st) t with
  | bad n =>
   rw[hq]at HP HR
   simp only at HP
   have hend:Hid (R=.bad n):=HR.out.symm
   clear hq hpk HR
   go_wp2_with fail
   refine HP.out.mono ?_;rintro e5 w5 ⟨rfl,h5⟩
   unfold flt
   go_wp2_with fail
   exact⟨rfl,StP.bad hend.out rfl ((NW.bad hn1.out h5.out))⟩
  | ok q =>
   obtain⟨i1,i2,i3⟩:=hpk q hq
   rw[hq]at HP HR
   simp only at HP
   replace HR:Hid (.ok q.1=R):=HR
   have HSL:q.1.st.length≤10000000:=Nat.le_trans i3 hs
   clear hq hpk i1 i2 i3
   go_wp2_with fail
   refine HP.out.mono ?_;rintro e5 w5 ⟨vs5,rfl,hk5,hn5,hbl5⟩
   have hnn:=hide (hn1.out.trans hn5.out)
   have HBL:=hide hbl5
   clear HP hbl5
   go_wp2_with fail
   go_ret
   exact StP.ok HR.out.symm rfl hk5.out hnn.out HBL.out
set_option maxRecDepth 100000 in
set_option maxHeartbeats 1600000 in
theorem cvar34 (K:KX) (vs vb:Value) (cs:List CB) (st:List UInt8) (x:XL) (w w0:World) (g:Nat) (m:MoL) (loc sp sr:Sl UInt8) (h:Hid (CK w K vs vb cs st)) (he:Hid (KE w0 K g m loc sp sr)) (hv:Hid (InvP (psOf cs st))) (hs:st.length≤10000000) (hcl:cs.length≤100000) (hxi:Hid x.x.In) (hb0:Hid (Below w0.heap.size w0 w)) (hl:loc.l.length≤100000) (hg:m.gls.l.length≤100000) (hc:x.code=34) :
  Calls Tryz.prog 108 #[.pointer (some ⟨K.cb,0,none⟩),insV2 x] w (StP w K vs vb (variableP ⟨m.g,loc.l,sp.l,sr.l⟩ (psOf cs st) x.x) (.bool true)):=by
 obtain⟨W,hW,hbw,hx,hsz⟩:=ins_box w x
 obtain⟨ig,hig⟩:∃ig,w.heap.size=ig:=⟨_,rfl⟩
 rw[hig]at hx
 have hkW:=hide (h.out.quiet hbw)
 have hnW:Hid (NW w W K.cb vs vb vs vb):=NW.of_below hbw
 have hbW0:=hide (hb0.out.trans (hbw.mono hb0.out.size))
 have hINS:insV2 x=.agg #[.int .i64 34,.int .u64 (x.a:Int),.int .u64 (x.b:Int),.int .i64 x.al,.slice x.l.at_ x.l.l.length x.l.cap]:=by unfold insV2;rw[hc]
 have hR:variableP ⟨m.g,loc.l,sp.l,sr.l⟩ (psOf cs st) x.x=(localP ⟨m.g,loc.l,sp.l,sr.l⟩ x.a).then fun t=>(pop1 (psOf cs st) t).then fun s1=>.ok (pushP s1 [t]):=by unfold variableP;rw[show x.x.code=34 from hc];rfl
 rw[hR,hINS]
 obtain⟨R,hRR⟩:∃R,((localP ⟨m.g,loc.l,sp.l,sr.l⟩ x.a).then fun t=>(pop1 (psOf cs st) t).then fun s1=>.ok (pushP s1 [t]))=R:=⟨_,rfl⟩
 rw[hRR]
 have HR:=hide hRR
 rw[hc]at hx hW
 have d0:W.cell? ⟨ig,0,none⟩=some (.int .i64 34):=cell_blk hx 0
 have d1:W.cell? ⟨ig,1,none⟩=some (.int .u64 (x.a:Int)):=cell_blk hx 1
 have d2:W.cell? ⟨ig,2,none⟩=some (.int .u64 (x.b:Int)):=cell_blk hx 2
 have HX:=hide hx;have HW:=hide hW;have HIG:=hide hig;have HINS:=hide hINS
 have ha64:=hxi.out.a
 have HL:=hide (clocal_any vs vb cs st x.a W sp.l hkW he hbW0 hl ha64)
 clear hW hx hig hbw hsz hR hINS hRR
 cases hq:localP ⟨m.g,loc.l,sp.l,sr.l⟩ x.a with
 | bad n =>
  have hend:Hid (R=.bad n):=by show _=_;rw[←HR.out,hq];rfl
  rw[hq]at HL
  unfold ValP at HL
  simp only at HL
  clear HR hq
  go_enter Tryz.func108,Tryz.ntmps108
  go_upto_region 1 with fail
  rw[HW.out,HIG.out]
  go_wp2_with fail
  refine HL.out.mono ?_;rintro e w5 ⟨rfl,h5⟩
  unfold flt
  go_wp2_with fail
  exact⟨rfl,StP.bad hend.out rfl (Bad.of (hnW.out.trans (NW.of_below h5.out)))⟩
 | ok t =>
  replace HR:Hid (((pop1 (psOf cs st) t).then fun s1=>.ok (pushP s1 [t]))=R):=by show _=_;rw[←HR.out,hq];rfl
  rw[hq]at HL
  unfold ValP at HL
  simp only at HL
  clear hq
  go_enter Tryz.func108,Tryz.ntmps108
  go_upto_region 1 with fail
  rw[HW.out,HIG.out]
  go_wp2_with fail
  refine HL.out.mono ?_;rintro e w1 ⟨rfl,h1⟩
  have hk1:=hide (hkW.out.quiet h1.out)
  have hn1:=hide (hnW.out.trans (NW.of_below h1.out))
  clear HL
  have HP:=hide (cpop_any K vs vb cs st t w1 hk1 hv.out hs hcl)
  unfold pop1 at HR
  have hpk:=fun q (hq:popP (psOf cs st) t=.ok q)=>popP_ok hq hv.out
  cases hq:popP (psOf cs st) t with
  | bad n =>
   rw[hq]at HP HR
   simp only at HP
   have hend:Hid (R=.bad n):=HR.out.symm
   clear hq hpk HR
   go_wp2_with fail
   refine HP.out.mono ?_;rintro e5 w5 ⟨rfl,h5⟩
   unfold flt
   go_wp2_with fail
   exact⟨rfl,StP.bad hend.out rfl ((NW.bad hn1.out h5.out))⟩
  | ok q =>
   obtain⟨i1,i2,i3⟩:=hpk q hq
   rw[hq]at HP HR
   simp only at HP
   replace HR:Hid (.ok (pushP q.1 [t])=R):=HR
   have HSL:q.1.st.length≤10000000:=Nat.le_trans i3 hs
   clear hq hpk i1 i2 i3
   go_wp2_with fail
   refine HP.out.mono ?_;rintro e5 w5 ⟨vs5,rfl,hk5,hn5,hbl5⟩
   have hnn:=hide (hn1.out.trans hn5.out)
   have HBL:=hide hbl5
   clear HP hbl5
   obtain⟨W7,g7,hW7,hg7,HPU⟩:=cpush1 K vs5 vb cs q.1.st t w5 hk5 HSL
   go_wp2_with fail
   rw[hW7.out,hg7.out]
   refine HPU.out.mono ?_;rintro e7 w7 ⟨vs7,rfl,hk7,hn7⟩
   go_wp2_with fail
   go_ret
   exact StP.ok HR.out.symm rfl hk7.out (hnn.out.trans hn7.out) HBL.out
set_option maxRecDepth 100000 in
set_option maxHeartbeats 1600000 in
theorem cvar35 (K:KX) (vs vb:Value) (cs:List CB) (st:List UInt8) (x:XL) (w w0:World) (g:Nat) (m:MoL) (loc sp sr:Sl UInt8) (h:Hid (CK w K vs vb cs st)) (he:Hid (KE w0 K g m loc sp sr)) (hv:Hid (InvP (psOf cs st))) (hs:st.length≤10000000) (hcl:cs.length≤100000) (hxi:Hid x.x.In) (hb0:Hid (Below w0.heap.size w0 w)) (hl:loc.l.length≤100000) (hg:m.gls.l.length≤100000) (hc:x.code=35) :
  Calls Tryz.prog 108 #[.pointer (some ⟨K.cb,0,none⟩),insV2 x] w (StP w K vs vb (variableP ⟨m.g,loc.l,sp.l,sr.l⟩ (psOf cs st) x.x) (.bool true)):=by
 obtain⟨W,hW,hbw,hx,hsz⟩:=ins_box w x
 obtain⟨ig,hig⟩:∃ig,w.heap.size=ig:=⟨_,rfl⟩
 rw[hig]at hx
 have hkW:=hide (h.out.quiet hbw)
 have hnW:Hid (NW w W K.cb vs vb vs vb):=NW.of_below hbw
 have hbW0:=hide (hb0.out.trans (hbw.mono hb0.out.size))
 have hINS:insV2 x=.agg #[.int .i64 35,.int .u64 (x.a:Int),.int .u64 (x.b:Int),.int .i64 x.al,.slice x.l.at_ x.l.l.length x.l.cap]:=by unfold insV2;rw[hc]
 have hR:variableP ⟨m.g,loc.l,sp.l,sr.l⟩ (psOf cs st) x.x=(globalP ⟨m.g,loc.l,sp.l,sr.l⟩ x.a).then fun g=>.ok (pushP (psOf cs st) [g.t]):=by unfold variableP;rw[show x.x.code=35 from hc];rfl
 rw[hR,hINS]
 obtain⟨R,hRR⟩:∃R,((globalP ⟨m.g,loc.l,sp.l,sr.l⟩ x.a).then fun g=>.ok (pushP (psOf cs st) [g.t]))=R:=⟨_,rfl⟩
 rw[hRR]
 have HR:=hide hRR
 rw[hc]at hx hW
 have d0:W.cell? ⟨ig,0,none⟩=some (.int .i64 35):=cell_blk hx 0
 have d1:W.cell? ⟨ig,1,none⟩=some (.int .u64 (x.a:Int)):=cell_blk hx 1
 have d2:W.cell? ⟨ig,2,none⟩=some (.int .u64 (x.b:Int)):=cell_blk hx 2
 have HX:=hide hx;have HW:=hide hW;have HIG:=hide hig;have HINS:=hide hINS
 have ha64:=hxi.out.a
 have HL:=hide (cglobal_any vs vb cs st x.a W sp.l hkW he hbW0 hg ha64)
 clear hW hx hig hbw hsz hR hINS hRR
 cases hq:globalP ⟨m.g,loc.l,sp.l,sr.l⟩ x.a with
 | bad n =>
  have hend:Hid (R=.bad n):=by show _=_;rw[←HR.out,hq];rfl
  rw[hq]at HL
  unfold ValP at HL
  simp only at HL
  clear HR hq
  go_enter Tryz.func108,Tryz.ntmps108
  go_upto_region 1 with fail
  rw[HW.out,HIG.out]
  go_wp2_with fail
  refine HL.out.mono ?_;rintro e w5 ⟨rfl,h5⟩
  unfold flt
  go_wp2_with fail
  exact⟨rfl,StP.bad hend.out rfl (Bad.of (hnW.out.trans (NW.of_below h5.out)))⟩
 | ok gg =>
  replace HR:Hid ((.ok (pushP (psOf cs st) [gg.t]))=R):=by show _=_;rw[←HR.out,hq];rfl
  rw[hq]at HL
  unfold ValP at HL
  simp only at HL
  clear hq
  go_enter Tryz.func108,Tryz.ntmps108
  go_upto_region 1 with fail
  rw[HW.out,HIG.out]
  go_wp2_with fail
  refine HL.out.mono ?_;rintro e w1 ⟨rfl,h1⟩
  have hk1:=hide (hkW.out.quiet h1.out)
  have hn1:=hide (hnW.out.trans (NW.of_below h1.out))
  unfold glV
  have HSL:=hs
  have hfl:∀W:World,Sem.run Tryz.prog (Instr.field 182 (.agg #[.int .u8 (gg.t.toNat:Int),.bool gg.mu,.int .u64 (gg.v:Int)]) 0) W=.ok (.int .u8 (gg.t.toNat:Int)) W:=fun _=>rfl
  clear HL
  obtain⟨W7,g7,hW7,hg7,HPU⟩:=cpush1 K vs vb cs st gg.t w1 hk1 HSL
  go_wp2_with fail
  rw[hW7.out,hg7.out]
  refine HPU.out.mono ?_;rintro e7 w7 ⟨vs7,rfl,hk7,hn7⟩
  go_wp2_with fail
  go_ret
  exact StP.ok HR.out.symm rfl hk7.out (hn1.out.trans hn7.out) rfl
set_option maxRecDepth 100000 in
set_option maxHeartbeats 1600000 in
theorem cvar36 (K:KX) (vs vb:Value) (cs:List CB) (st:List UInt8) (x:XL) (w w0:World) (g:Nat) (m:MoL) (loc sp sr:Sl UInt8) (h:Hid (CK w K vs vb cs st)) (he:Hid (KE w0 K g m loc sp sr)) (hv:Hid (InvP (psOf cs st))) (hs:st.length≤10000000) (hcl:cs.length≤100000) (hxi:Hid x.x.In) (hb0:Hid (Below w0.heap.size w0 w)) (hl:loc.l.length≤100000) (hg:m.gls.l.length≤100000) (hc:x.code=36) :
  Calls Tryz.prog 108 #[.pointer (some ⟨K.cb,0,none⟩),insV2 x] w (StP w K vs vb (variableP ⟨m.g,loc.l,sp.l,sr.l⟩ (psOf cs st) x.x) (.bool true)):=by
 obtain⟨W,hW,hbw,hx,hsz⟩:=ins_box w x
 obtain⟨ig,hig⟩:∃ig,w.heap.size=ig:=⟨_,rfl⟩
 rw[hig]at hx
 have hkW:=hide (h.out.quiet hbw)
 have hnW:Hid (NW w W K.cb vs vb vs vb):=NW.of_below hbw
 have hbW0:=hide (hb0.out.trans (hbw.mono hb0.out.size))
 have hINS:insV2 x=.agg #[.int .i64 36,.int .u64 (x.a:Int),.int .u64 (x.b:Int),.int .i64 x.al,.slice x.l.at_ x.l.l.length x.l.cap]:=by unfold insV2;rw[hc]
 have hR:variableP ⟨m.g,loc.l,sp.l,sr.l⟩ (psOf cs st) x.x=(globalP ⟨m.g,loc.l,sp.l,sr.l⟩ x.a).then fun g=>need g.mu 5 (pop1 (psOf cs st) g.t):=by unfold variableP;rw[show x.x.code=36 from hc];rfl
 rw[hR,hINS]
 obtain⟨R,hRR⟩:∃R,((globalP ⟨m.g,loc.l,sp.l,sr.l⟩ x.a).then fun g=>need g.mu 5 (pop1 (psOf cs st) g.t))=R:=⟨_,rfl⟩
 rw[hRR]
 have HR:=hide hRR
 rw[hc]at hx hW
 have d0:W.cell? ⟨ig,0,none⟩=some (.int .i64 36):=cell_blk hx 0
 have d1:W.cell? ⟨ig,1,none⟩=some (.int .u64 (x.a:Int)):=cell_blk hx 1
 have d2:W.cell? ⟨ig,2,none⟩=some (.int .u64 (x.b:Int)):=cell_blk hx 2
 have HX:=hide hx;have HW:=hide hW;have HIG:=hide hig;have HINS:=hide hINS
 have ha64:=hxi.out.a
 have HL:=hide (cglobal_any vs vb cs st x.a W sp.l hkW he hbW0 hg ha64)
 clear hW hx hig hbw hsz hR hINS hRR
 cases hq:globalP ⟨m.g,loc.l,sp.l,sr.l⟩ x.a with
 | bad n =>
  have hend:Hid (R=.bad n):=by show _=_;rw[←HR.out,hq];rfl
  rw[hq]at HL
  unfold ValP at HL
  simp only at HL
  clear HR hq
  go_enter Tryz.func108,Tryz.ntmps108
  go_upto_region 1 with fail
  rw[HW.out,HIG.out]
  go_wp2_with fail
  refine HL.out.mono ?_;rintro e w5 ⟨rfl,h5⟩
  unfold flt
  go_wp2_with fail
  exact⟨rfl,StP.bad hend.out rfl (Bad.of (hnW.out.trans (NW.of_below h5.out)))⟩
 | ok gg =>
  replace HR:Hid ((need gg.mu 5 (pop1 (psOf cs st) gg.t))=R):=by show _=_;rw[←HR.out,hq];rfl
  rw[hq]at HL
  unfold ValP at HL
  simp only at HL
  clear hq
  go_enter Tryz.func108,Tryz.ntmps108
  go_upto_region 1 with fail
  rw[HW.out,HIG.out]
  go_wp2_with fail
  refine HL.out.mono ?_;rintro e w1 ⟨rfl,h1⟩
  have hk1:=hide (hkW.out.quiet h1.out)
  have hn1:=hide (hnW.out.trans (NW.of_below h1.out))
  unfold glV
  clear HL
  obtain⟨W3,hW3,hb3,hx3,hsz3⟩:=box_new w1 #[.int .u8 (gg.t.toNat:Int),.bool gg.mu,.int .u64 (gg.v:Int)] 182
  obtain⟨lg,hlg⟩:∃lg,w1.heap.size=lg:=⟨_,rfl⟩
  rw[hlg]at hx3
  have k0:W3.cell? ⟨lg,0,none⟩=some (.int .u8 (gg.t.toNat:Int)):=cell_blk hx3 0
  have k1:W3.cell? ⟨lg,1,none⟩=some (.bool gg.mu):=cell_blk hx3 1
  have HLG:=hide hlg;have HW3:=hide hW3
  replace hk1:=hide (hk1.out.quiet hb3)
  replace hn1:=hide (hn1.out.trans (NW.of_below hb3))
  clear hlg hW3 hx3 hb3 hsz3
  go_upto_region 15 with fail
  rw[HW3.out,HLG.out]
  cases hmu:gg.mu with
  | false =>
   rw[hmu]at HR k1
   have hend:Hid (R=.bad 5):=HR.out.symm
   clear hmu HR
   go_wp2_with fail
   refine(must_no 5 5 rfl _).mono ?_;rintro e7 w7 ⟨rfl,rfl⟩
   unfold flt
   go_wp2_with fail
   exact⟨rfl,StP.bad hend.out rfl (Bad.of hn1.out)⟩
  | true =>
   rw[hmu]at HR k1
   replace HR:Hid (pop1 (psOf cs st) gg.t=R):=HR
   clear hmu
   go_wp2_with fail
   refine(must_yes _ _).mono ?_;rintro e7 w7 ⟨rfl,rfl⟩
   have HP:=hide (cpop_any K vs vb cs st gg.t W3 hk1 hv.out hs hcl)
   unfold pop1 at HR
   have hpk:=fun q (hq:popP (psOf cs st) gg.t=.ok q)=>popP_ok hq hv.out
   cases hq:popP (psOf cs st) gg.t with
   | bad n =>
    rw[hq]at HP HR
    simp only at HP
    have hend:Hid (R=.bad n):=HR.out.symm
    clear hq hpk HR
    go_wp2_with fail
    refine HP.out.mono ?_;rintro e5 w5 ⟨rfl,h5⟩
    unfold flt
    go_wp2_with fail
    exact⟨rfl,StP.bad hend.out rfl ((NW.bad hn1.out h5.out))⟩
   | ok q =>
    obtain⟨i1,i2,i3⟩:=hpk q hq
    rw[hq]at HP HR
    simp only at HP
    replace HR:Hid (.ok q.1=R):=HR
    have HSL:q.1.st.length≤10000000:=Nat.le_trans i3 hs
    clear hq hpk i1 i2 i3
    go_wp2_with fail
    refine HP.out.mono ?_;rintro e5 w5 ⟨vs5,rfl,hk5,hn5,hbl5⟩
    have hnn:=hide (hn1.out.trans hn5.out)
    have HBL:=hide hbl5
    clear HP hbl5
    go_wp2_with fail
    go_ret
    exact StP.ok HR.out.symm rfl hk5.out hnn.out HBL.out
set_option maxRecDepth 100000 in
set_option maxHeartbeats 1600000 in
theorem cvar_no (K:KX) (vs vb:Value) (cs:List CB) (st:List UInt8) (x:XL) (w:World) (h:Hid (CK w K vs vb cs st)) (hc:varC x.code=false) :
  Calls Tryz.prog 108 #[.pointer (some ⟨K.cb,0,none⟩),insV2 x] w (fun e w'=>e=.returned (.bool false)∧Hid (Below w.heap.size w w')):=by
 obtain⟨W,hW,hbw,hx,hsz⟩:=ins_box w x
 obtain⟨ig,hig⟩:∃ig,w.heap.size=ig:=⟨_,rfl⟩
 rw[hig]at hx
 have d0:W.cell? ⟨ig,0,none⟩=some (.int .i64 x.code):=cell_blk hx 0
 have HX:=hide hx;have HW:=hide hW;have HIG:=hide hig;have HBW:=hide hbw
 unfold varC at hc
 simp only[Bool.or_eq_false_iff]at hc
 obtain⟨t32,t33,t34,t35,t36⟩:=hc
 unfold insV2
 clear hW hx hig hbw hsz
 go_enter Tryz.func108,Tryz.ntmps108
 go_upto_region 1 with fail
 rw[HW.out,HIG.out]
 go_wp2_with fail
 go_ret
 exact⟨rfl,HBW.out⟩
theorem cvar_any (K:KX) (vs vb:Value) (cs:List CB) (st:List UInt8) (x:XL) (w w0:World) (g:Nat) (m:MoL) (loc sp sr:Sl UInt8) (h:Hid (CK w K vs vb cs st)) (he:Hid (KE w0 K g m loc sp sr)) (hv:Hid (InvP (psOf cs st))) (hs:st.length≤10000000) (hcl:cs.length≤100000) (hxi:Hid x.x.In) (hb0:Hid (Below w0.heap.size w0 w)) (hl:loc.l.length≤100000) (hg:m.gls.l.length≤100000) (hc:varC x.code=true) :
  Calls Tryz.prog 108 #[.pointer (some ⟨K.cb,0,none⟩),insV2 x] w (StP w K vs vb (variableP ⟨m.g,loc.l,sp.l,sr.l⟩ (psOf cs st) x.x) (.bool true)):=by
 unfold varC at hc
 simp only[Bool.or_eq_true,beq_iff_eq]at hc
 rcases hc with hc|hc|hc|hc|hc
 ·exact cvar32 K vs vb cs st x w w0 g m loc sp sr h he hv hs hcl hxi hb0 hl hg hc
 ·exact cvar33 K vs vb cs st x w w0 g m loc sp sr h he hv hs hcl hxi hb0 hl hg hc
 ·exact cvar34 K vs vb cs st x w w0 g m loc sp sr h he hv hs hcl hxi hb0 hl hg hc
 ·exact cvar35 K vs vb cs st x w w0 g m loc sp sr h he hv hs hcl hxi hb0 hl hg hc
 ·exact cvar36 K vs vb cs st x w w0 g m loc sp sr h he hv hs hcl hxi hb0 hl hg hc
def limV (a b:Int) (wide:Bool):Value:=.agg #[.int .i64 a,.int .i64 b,.bool wide]
def limRight (a b m:Int):Bool:=decide (0≤a)&&(decide (a≤m)&&(decide (b<0)||(decide (a≤b)&&decide (b≤m))))
set_option maxHeartbeats 800000 in
theorem limRight_any (a b m:Int) (wide:Bool) (w:World):Calls Tryz.prog 84 #[limV a b wide,.int .i64 m] w fun e w'=>e=.returned (.bool (limRight a b m))∧Below w.heap.size w w':=by
 unfold limV
 have hb:=(Below.refl w.heap.size w).alloc (Nat.le_refl _) (.cells #[.int .i64 a,.int .i64 b,.bool wide] 179)
 have HB:=hide hb
 clear hb
 by_cases h1:0≤a
 ·by_cases h2:a≤m
  ·by_cases h3:b<0
   ·have e:limRight a b m=true:=by unfold limRight;simp[h1,h2,h3]
    rw[e]
    go_enter Tryz.func84,Tryz.ntmps84
    go_wp2_with fail
    go_ret
    exact⟨rfl,HB.out⟩
   ·by_cases h4:a≤b
    ·by_cases h5:b≤m
     ·have e:limRight a b m=true:=by unfold limRight;simp[h1,h2,h3,h4,h5]
      rw[e]
      go_enter Tryz.func84,Tryz.ntmps84
      go_wp2_with fail
      go_ret
      exact⟨rfl,HB.out⟩
     ·have e:limRight a b m=false:=by unfold limRight;simp[h1,h2,h3,h4,h5]
      rw[e]
      go_enter Tryz.func84,Tryz.ntmps84
      go_wp2_with fail
      go_ret
      exact⟨rfl,HB.out⟩
    ·have e:limRight a b m=false:=by unfold limRight;simp[h1,h2,h3,h4]
     rw[e]
     go_enter Tryz.func84,Tryz.ntmps84
     go_wp2_with fail
     go_ret
     exact⟨rfl,HB.out⟩
  ·have e:limRight a b m=false:=by unfold limRight;simp[h1,h2]
   rw[e]
   go_enter Tryz.func84,Tryz.ntmps84
   go_wp2_with fail
   go_ret
   exact⟨rfl,HB.out⟩
 ·have e:limRight a b m=false:=by unfold limRight;simp[h1]
  rw[e]
  go_enter Tryz.func84,Tryz.ntmps84
  go_wp2_with fail
  go_ret
  exact⟨rfl,HB.out⟩
end Go.Proofs.YtomppgohoplemaaGreat
