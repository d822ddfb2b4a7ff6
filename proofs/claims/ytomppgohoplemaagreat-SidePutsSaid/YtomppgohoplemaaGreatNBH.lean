import Derived.Test.YtomppgohoplemaaGreatNBG
set_option linter.unusedVariables false
namespace Go.Proofs.YtomppgohoplemaaGreat
open Go.RowKit
set_option maxRecDepth 100000 in
set_option maxHeartbeats 3200000 in
theorem cstepA (K:KX) (vs vb:Value) (cs:List CB) (st:List UInt8) (x:XL) (w w0:World) (g:Nat) (m:MoL) (loc sp sr:Sl UInt8) (r:OpRow) (ml:Int) (h:Hid (CK w K vs vb cs st)) (he:Hid (KE w0 K g m loc sp sr)) (hv:Hid (InvP (psOf cs st))) (hs:st.length≤10000000) (hcl:cs.length≤100000) (hxi:Hid x.x.In) (hlab:Hid (Row w0 1 uD x.l)) (hb0:Hid (Below w0.heap.size w0 w)) (hz:Hid (MoSz m)) (hl:loc.l.length≤100000) (hll:x.l.l.length≤1000) (hrl:sr.l.length≤1000) (hcode:opRow x.code=some r) (hal:0≤x.al) (hml:Hid (w0.cell? ⟨0,0,none⟩=some (.int .i64 ml))) (hc:ctrlC x.code=true) :
  Calls Tryz.prog 69 #[.pointer (some ⟨K.cb,0,none⟩),insV2 x] w (StP w K vs vb (stepP ⟨m.g,loc.l,sp.l,sr.l⟩ (psOf cs st) x.x r.form (widthN r.name.data.toList) (typesL r.takes) (typesL r.gives)) (.tuple #[])):=by
 have hR:stepP ⟨m.g,loc.l,sp.l,sr.l⟩ (psOf cs st) x.x r.form (widthN r.name.data.toList) (typesL r.takes) (typesL r.gives)=controlP ⟨m.g,loc.l,sp.l,sr.l⟩ (psOf cs st) x.x:=by
  unfold stepP
  rw[if_pos (show ctrlC x.x.code=true from hc)]
 rw[hR]
 clear hR
 obtain⟨W,hW,hbw,hx,hsz⟩:=ins_box w x
 obtain⟨ig,hig⟩:∃ig,w.heap.size=ig:=⟨_,rfl⟩
 rw[hig]at hx
 have hkW:=hide (h.out.quiet hbw)
 have hbW0:=hide (hb0.out.trans (hbw.mono hb0.out.size))
 have hnW:Hid (NW w W K.cb vs vb vs vb):=NW.of_below hbw
 have HF:=hide (find_some2 x.code r W hxi.out.c1 hxi.out.c2 hcode)
 unfold FindSome2 at HF
 have hok:=opRow_ok hcode
 have hr1:=hok.tl;have hr2:=hok.gl
 have hz1:=hz.out.mems;have hz2:=hz.out.gls
 have hk3:=he.out.c3
 have hsr:=hide he.out.sr
 have hbs:=he.out.bs
 have d0:W.cell? ⟨ig,0,none⟩=some (.int .i64 x.code):=cell_blk hx 0
 have HX:=hide hx;have HW:=hide hW;have HIG:=hide hig;have HBW:=hide hbw
 have HCODE:=hide hcode
 have HH:=h
 unfold insV2
 clear hW hx hig hbw hsz hcode hok
 go_enter Tryz.func69,Tryz.ntmps69
 go_upto_region 1 with fail
 rw[HW.out,HIG.out]
 go_wp2_with fail
 refine HF.out.mono ?_;rintro e w1 ⟨A1,c1,A2,c2,rfl,ho1,ho2,hap,h1⟩
 obtain⟨W3,hW3,hb3,hx3,hsz3⟩:=box_new w1 #[.int .i64 r.code,.string r.name,.int .i64 r.form,.slice A1 r.takes.size c1,.slice A2 r.gives.size c2] 199
 obtain⟨og,hog⟩:∃og,w1.heap.size=og:=⟨_,rfl⟩
 rw[hog]at hx3
 have hB3:Below W.heap.size W W3:=h1.out.trans (hb3.mono h1.out.size)
 have HB3:=hide hB3
 have hk3':=hide (hkW.out.quiet hB3)
 have hn3:=hide (hnW.out.trans (NW.of_below hB3))
 have hb30:=hide (hbW0.out.trans (hB3.mono hbW0.out.size))
 have hI3:=hide ((hB3.block ig (blk_lt HX.out)).trans HX.out)
 have hO3:=hide hx3
 have ho1':=hide (own_only3 (S:=[]) ho1.out (Only.of_below hb3) (by simp))
 have ho2':=hide (own_only3 (S:=[]) ho2.out (Only.of_below hb3) (by simp))
 have HW3:=hide hW3;have HOG:=hide hog
 clear hW3 hog hb3 hx3 hsz3 hB3 HF d0 h1 ho1 ho2
 have i0:W3.cell? ⟨ig,0,none⟩=some (.int .i64 x.code):=cell_blk hI3.out 0
 have i1:W3.cell? ⟨ig,1,none⟩=some (.int .u64 (x.a:Int)):=cell_blk hI3.out 1
 have i2:W3.cell? ⟨ig,2,none⟩=some (.int .u64 (x.b:Int)):=cell_blk hI3.out 2
 have i3:W3.cell? ⟨ig,3,none⟩=some (.int .i64 x.al):=cell_blk hI3.out 3
 have i4:W3.cell? ⟨ig,4,none⟩=some (.slice x.l.at_ x.l.l.length x.l.cap):=cell_blk hI3.out 4
 go_upto_region 3 with fail
 rw[HW3.out,HOG.out]
 have HP:=hide (cctrl_any K vs vb cs st x W3 w0 ⟨m.g,loc.l,sp.l,sr.l⟩ sr hk3' hv hs hcl hxi hlab hb30 hbs he.out.far hll hsr rfl hrl hk3 hc)
 unfold StP insV2 at HP
 cases hq:controlP ⟨m.g,loc.l,sp.l,sr.l⟩ (psOf cs st) x.x with
 | bad n =>
  have HQ:=hide hq
  rw[hq]at HP
  simp only at HP
  clear hq
  go_wp2_with fail
  refine HP.out.mono ?_;rintro e6 w6 ⟨rfl,h6⟩
  unfold flt
  go_wp2_with fail
  exact⟨rfl,StP.bad (by first|exact HQ.out|rfl) rfl ((NW.bad hn3.out h6.out))⟩
 | ok s2 =>
  have HQ:=hide hq
  rw[hq]at HP
  simp only at HP
  clear hq
  go_wp2_with fail
  refine HP.out.mono ?_;rintro e6 w6 ⟨vs6,vb6,cs6,rfl,hk6,hn6,hbl6⟩
  go_wp2_with fail
  go_end0
  exact StP.ok (by first|exact HQ.out|rfl) rfl hk6.out (hn3.out.trans hn6.out) hbl6.out
set_option maxRecDepth 100000 in
set_option maxHeartbeats 3200000 in
theorem cstepB (K:KX) (vs vb:Value) (cs:List CB) (st:List UInt8) (x:XL) (w w0:World) (g:Nat) (m:MoL) (loc sp sr:Sl UInt8) (r:OpRow) (ml:Int) (h:Hid (CK w K vs vb cs st)) (he:Hid (KE w0 K g m loc sp sr)) (hv:Hid (InvP (psOf cs st))) (hs:st.length≤10000000) (hcl:cs.length≤100000) (hxi:Hid x.x.In) (hlab:Hid (Row w0 1 uD x.l)) (hb0:Hid (Below w0.heap.size w0 w)) (hz:Hid (MoSz m)) (hl:loc.l.length≤100000) (hll:x.l.l.length≤1000) (hrl:sr.l.length≤1000) (hcode:opRow x.code=some r) (hal:0≤x.al) (hml:Hid (w0.cell? ⟨0,0,none⟩=some (.int .i64 ml))) (hc0:ctrlC x.code=false) (hc:varC x.code=true) :
  Calls Tryz.prog 69 #[.pointer (some ⟨K.cb,0,none⟩),insV2 x] w (StP w K vs vb (stepP ⟨m.g,loc.l,sp.l,sr.l⟩ (psOf cs st) x.x r.form (widthN r.name.data.toList) (typesL r.takes) (typesL r.gives)) (.tuple #[])):=by
 have hR:stepP ⟨m.g,loc.l,sp.l,sr.l⟩ (psOf cs st) x.x r.form (widthN r.name.data.toList) (typesL r.takes) (typesL r.gives)=variableP ⟨m.g,loc.l,sp.l,sr.l⟩ (psOf cs st) x.x:=by
  unfold stepP
  rw[if_neg (by rw[show ctrlC x.x.code=false from hc0];simp),if_pos (show varC x.x.code=true from hc)]
 rw[hR]
 clear hR
 obtain⟨W,hW,hbw,hx,hsz⟩:=ins_box w x
 obtain⟨ig,hig⟩:∃ig,w.heap.size=ig:=⟨_,rfl⟩
 rw[hig]at hx
 have hkW:=hide (h.out.quiet hbw)
 have hbW0:=hide (hb0.out.trans (hbw.mono hb0.out.size))
 have hnW:Hid (NW w W K.cb vs vb vs vb):=NW.of_below hbw
 have HF:=hide (find_some2 x.code r W hxi.out.c1 hxi.out.c2 hcode)
 unfold FindSome2 at HF
 have hok:=opRow_ok hcode
 have hr1:=hok.tl;have hr2:=hok.gl
 have hz1:=hz.out.mems;have hz2:=hz.out.gls
 have hk3:=he.out.c3
 have hsr:=hide he.out.sr
 have hbs:=he.out.bs
 have d0:W.cell? ⟨ig,0,none⟩=some (.int .i64 x.code):=cell_blk hx 0
 have HX:=hide hx;have HW:=hide hW;have HIG:=hide hig;have HBW:=hide hbw
 have HCODE:=hide hcode
 have HH:=h
 have HC0:=hide hc0
 clear hc0
 unfold insV2
 clear hW hx hig hbw hsz hcode hok
 go_enter Tryz.func69,Tryz.ntmps69
 go_upto_region 1 with fail
 rw[HW.out,HIG.out]
 go_wp2_with fail
 refine HF.out.mono ?_;rintro e w1 ⟨A1,c1,A2,c2,rfl,ho1,ho2,hap,h1⟩
 obtain⟨W3,hW3,hb3,hx3,hsz3⟩:=box_new w1 #[.int .i64 r.code,.string r.name,.int .i64 r.form,.slice A1 r.takes.size c1,.slice A2 r.gives.size c2] 199
 obtain⟨og,hog⟩:∃og,w1.heap.size=og:=⟨_,rfl⟩
 rw[hog]at hx3
 have hB3:Below W.heap.size W W3:=h1.out.trans (hb3.mono h1.out.size)
 have HB3:=hide hB3
 have hk3':=hide (hkW.out.quiet hB3)
 have hn3:=hide (hnW.out.trans (NW.of_below hB3))
 have hb30:=hide (hbW0.out.trans (hB3.mono hbW0.out.size))
 have hI3:=hide ((hB3.block ig (blk_lt HX.out)).trans HX.out)
 have hO3:=hide hx3
 have ho1':=hide (own_only3 (S:=[]) ho1.out (Only.of_below hb3) (by simp))
 have ho2':=hide (own_only3 (S:=[]) ho2.out (Only.of_below hb3) (by simp))
 have HW3:=hide hW3;have HOG:=hide hog
 clear hW3 hog hb3 hx3 hsz3 hB3 HF d0 h1 ho1 ho2
 have i0:W3.cell? ⟨ig,0,none⟩=some (.int .i64 x.code):=cell_blk hI3.out 0
 have i1:W3.cell? ⟨ig,1,none⟩=some (.int .u64 (x.a:Int)):=cell_blk hI3.out 1
 have i2:W3.cell? ⟨ig,2,none⟩=some (.int .u64 (x.b:Int)):=cell_blk hI3.out 2
 have i3:W3.cell? ⟨ig,3,none⟩=some (.int .i64 x.al):=cell_blk hI3.out 3
 have i4:W3.cell? ⟨ig,4,none⟩=some (.slice x.l.at_ x.l.l.length x.l.cap):=cell_blk hI3.out 4
 go_upto_region 3 with fail
 rw[HW3.out,HOG.out]
 have HN:=hide (cctrl_no K vs vb cs st x W3 hk3' HC0.out)
 unfold insV2 at HN
 go_wp2_with fail
 refine HN.out.mono ?_;rintro e w4 ⟨rfl,q4⟩
 have hk4:=hide (hk3'.out.quiet q4.out)
 have hk4':=hk4
 have hn4:=hide (hn3.out.trans (NW.of_below q4.out))
 have hb40:=hide (hb30.out.trans (q4.out.mono hb30.out.size))
 have hI4:=hide ((q4.out.block ig (blk_lt hI3.out)).trans hI3.out)
 have hO4:=hide ((q4.out.block og (blk_lt hO3.out)).trans hO3.out)
 clear i0 i1 i2 i3 i4
 have i0:w4.cell? ⟨ig,0,none⟩=some (.int .i64 x.code):=cell_blk hI4.out 0
 have i1:w4.cell? ⟨ig,1,none⟩=some (.int .u64 (x.a:Int)):=cell_blk hI4.out 1
 have i2:w4.cell? ⟨ig,2,none⟩=some (.int .u64 (x.b:Int)):=cell_blk hI4.out 2
 have i3:w4.cell? ⟨ig,3,none⟩=some (.int .i64 x.al):=cell_blk hI4.out 3
 have i4:w4.cell? ⟨ig,4,none⟩=some (.slice x.l.at_ x.l.l.length x.l.cap):=cell_blk hI4.out 4
 have HP:=hide (cvar_any K vs vb cs st x w4 w0 g m loc sp sr hk4' he hv hs hcl hxi hb40 hl (by omega) hc)
 unfold StP insV2 at HP
 cases hq:variableP ⟨m.g,loc.l,sp.l,sr.l⟩ (psOf cs st) x.x with
 | bad n =>
  have HQ:=hide hq
  rw[hq]at HP
  simp only at HP
  clear hq
  go_wp2_with fail
  refine HP.out.mono ?_;rintro e6 w6 ⟨rfl,h6⟩
  unfold flt
  go_wp2_with fail
  exact⟨rfl,StP.bad (by first|exact HQ.out|rfl) rfl ((NW.bad hn4.out h6.out))⟩
 | ok s2 =>
  have HQ:=hide hq
  rw[hq]at HP
  simp only at HP
  clear hq
  go_wp2_with fail
  refine HP.out.mono ?_;rintro e6 w6 ⟨vs6,vb6,cs6,rfl,hk6,hn6,hbl6⟩
  go_wp2_with fail
  go_end0
  exact StP.ok (by first|exact HQ.out|rfl) rfl hk6.out (hn4.out.trans hn6.out) hbl6.out
set_option maxRecDepth 100000 in
set_option maxHeartbeats 3200000 in
theorem cstepC (K:KX) (vs vb:Value) (cs:List CB) (st:List UInt8) (x:XL) (w w0:World) (g:Nat) (m:MoL) (loc sp sr:Sl UInt8) (r:OpRow) (ml:Int) (h:Hid (CK w K vs vb cs st)) (he:Hid (KE w0 K g m loc sp sr)) (hv:Hid (InvP (psOf cs st))) (hs:st.length≤10000000) (hcl:cs.length≤100000) (hxi:Hid x.x.In) (hlab:Hid (Row w0 1 uD x.l)) (hb0:Hid (Below w0.heap.size w0 w)) (hz:Hid (MoSz m)) (hl:loc.l.length≤100000) (hll:x.l.l.length≤1000) (hrl:sr.l.length≤1000) (hcode:opRow x.code=some r) (hal:0≤x.al) (hml:Hid (w0.cell? ⟨0,0,none⟩=some (.int .i64 ml))) (hc0:ctrlC x.code=false) (hc1:varC x.code=false) (hc:callC x.code=true) :
  Calls Tryz.prog 69 #[.pointer (some ⟨K.cb,0,none⟩),insV2 x] w (StP w K vs vb (stepP ⟨m.g,loc.l,sp.l,sr.l⟩ (psOf cs st) x.x r.form (widthN r.name.data.toList) (typesL r.takes) (typesL r.gives)) (.tuple #[])):=by
 have hR:stepP ⟨m.g,loc.l,sp.l,sr.l⟩ (psOf cs st) x.x r.form (widthN r.name.data.toList) (typesL r.takes) (typesL r.gives)=callP ⟨m.g,loc.l,sp.l,sr.l⟩ (psOf cs st) x.x:=by
  unfold stepP
  rw[if_neg (by rw[show ctrlC x.x.code=false from hc0];simp),if_neg (by rw[show varC x.x.code=false from hc1];simp),if_pos (show callC x.x.code=true from hc)]
 rw[hR]
 clear hR
 obtain⟨W,hW,hbw,hx,hsz⟩:=ins_box w x
 obtain⟨ig,hig⟩:∃ig,w.heap.size=ig:=⟨_,rfl⟩
 rw[hig]at hx
 have hkW:=hide (h.out.quiet hbw)
 have hbW0:=hide (hb0.out.trans (hbw.mono hb0.out.size))
 have hnW:Hid (NW w W K.cb vs vb vs vb):=NW.of_below hbw
 have HF:=hide (find_some2 x.code r W hxi.out.c1 hxi.out.c2 hcode)
 unfold FindSome2 at HF
 have hok:=opRow_ok hcode
 have hr1:=hok.tl;have hr2:=hok.gl
 have hz1:=hz.out.mems;have hz2:=hz.out.gls
 have hk3:=he.out.c3
 have hsr:=hide he.out.sr
 have hbs:=he.out.bs
 have d0:W.cell? ⟨ig,0,none⟩=some (.int .i64 x.code):=cell_blk hx 0
 have HX:=hide hx;have HW:=hide hW;have HIG:=hide hig;have HBW:=hide hbw
 have HCODE:=hide hcode
 have HH:=h
 have HC0:=hide hc0
 have HC1:=hide hc1
 clear hc0 hc1
 unfold insV2
 clear hW hx hig hbw hsz hcode hok
 go_enter Tryz.func69,Tryz.ntmps69
 go_upto_region 1 with fail
 rw[HW.out,HIG.out]
 go_wp2_with fail
 refine HF.out.mono ?_;rintro e w1 ⟨A1,c1,A2,c2,rfl,ho1,ho2,hap,h1⟩
 obtain⟨W3,hW3,hb3,hx3,hsz3⟩:=box_new w1 #[.int .i64 r.code,.string r.name,.int .i64 r.form,.slice A1 r.takes.size c1,.slice A2 r.gives.size c2] 199
 obtain⟨og,hog⟩:∃og,w1.heap.size=og:=⟨_,rfl⟩
 rw[hog]at hx3
 have hB3:Below W.heap.size W W3:=h1.out.trans (hb3.mono h1.out.size)
 have HB3:=hide hB3
 have hk3':=hide (hkW.out.quiet hB3)
 have hn3:=hide (hnW.out.trans (NW.of_below hB3))
 have hb30:=hide (hbW0.out.trans (hB3.mono hbW0.out.size))
 have hI3:=hide ((hB3.block ig (blk_lt HX.out)).trans HX.out)
 have hO3:=hide hx3
 have ho1':=hide (own_only3 (S:=[]) ho1.out (Only.of_below hb3) (by simp))
 have ho2':=hide (own_only3 (S:=[]) ho2.out (Only.of_below hb3) (by simp))
 have HW3:=hide hW3;have HOG:=hide hog
 clear hW3 hog hb3 hx3 hsz3 hB3 HF d0 h1 ho1 ho2
 have i0:W3.cell? ⟨ig,0,none⟩=some (.int .i64 x.code):=cell_blk hI3.out 0
 have i1:W3.cell? ⟨ig,1,none⟩=some (.int .u64 (x.a:Int)):=cell_blk hI3.out 1
 have i2:W3.cell? ⟨ig,2,none⟩=some (.int .u64 (x.b:Int)):=cell_blk hI3.out 2
 have i3:W3.cell? ⟨ig,3,none⟩=some (.int .i64 x.al):=cell_blk hI3.out 3
 have i4:W3.cell? ⟨ig,4,none⟩=some (.slice x.l.at_ x.l.l.length x.l.cap):=cell_blk hI3.out 4
 go_upto_region 3 with fail
 rw[HW3.out,HOG.out]
 have HN:=hide (cctrl_no K vs vb cs st x W3 hk3' HC0.out)
 unfold insV2 at HN
 go_wp2_with fail
 refine HN.out.mono ?_;rintro e w4 ⟨rfl,q4⟩
 have hk4:=hide (hk3'.out.quiet q4.out)
 have hk4':=hk4
 have hn4:=hide (hn3.out.trans (NW.of_below q4.out))
 have hb40:=hide (hb30.out.trans (q4.out.mono hb30.out.size))
 have hI4:=hide ((q4.out.block ig (blk_lt hI3.out)).trans hI3.out)
 have hO4:=hide ((q4.out.block og (blk_lt hO3.out)).trans hO3.out)
 clear i0 i1 i2 i3 i4
 have i0:w4.cell? ⟨ig,0,none⟩=some (.int .i64 x.code):=cell_blk hI4.out 0
 have i1:w4.cell? ⟨ig,1,none⟩=some (.int .u64 (x.a:Int)):=cell_blk hI4.out 1
 have i2:w4.cell? ⟨ig,2,none⟩=some (.int .u64 (x.b:Int)):=cell_blk hI4.out 2
 have i3:w4.cell? ⟨ig,3,none⟩=some (.int .i64 x.al):=cell_blk hI4.out 3
 have i4:w4.cell? ⟨ig,4,none⟩=some (.slice x.l.at_ x.l.l.length x.l.cap):=cell_blk hI4.out 4
 have HN2:=hide (cvar_no K vs vb cs st x w4 hk4' HC1.out)
 unfold insV2 at HN2
 clear HN
 go_wp2_with fail
 refine HN2.out.mono ?_;rintro e w5 ⟨rfl,q5⟩
 have hk5:=hide (hk4'.out.quiet q5.out)
 have hk5':=hk5
 have hn5:=hide (hn4.out.trans (NW.of_below q5.out))
 have hb50:=hide (hb40.out.trans (q5.out.mono hb40.out.size))
 have hI5:=hide ((q5.out.block ig (blk_lt hI4.out)).trans hI4.out)
 have hO5:=hide ((q5.out.block og (blk_lt hO4.out)).trans hO4.out)
 clear i0 i1 i2 i3 i4
 have i0:w5.cell? ⟨ig,0,none⟩=some (.int .i64 x.code):=cell_blk hI5.out 0
 have i1:w5.cell? ⟨ig,1,none⟩=some (.int .u64 (x.a:Int)):=cell_blk hI5.out 1
 have i2:w5.cell? ⟨ig,2,none⟩=some (.int .u64 (x.b:Int)):=cell_blk hI5.out 2
 have i3:w5.cell? ⟨ig,3,none⟩=some (.int .i64 x.al):=cell_blk hI5.out 3
 have i4:w5.cell? ⟨ig,4,none⟩=some (.slice x.l.at_ x.l.l.length x.l.cap):=cell_blk hI5.out 4
 have HP:=hide (ccall_any K vs vb cs st x w5 w0 g m loc sp sr hk5' he hv hs hcl hxi hb50 hz hc)
 unfold StP insV2 at HP
 cases hq:callP ⟨m.g,loc.l,sp.l,sr.l⟩ (psOf cs st) x.x with
 | bad n =>
  have HQ:=hide hq
  rw[hq]at HP
  simp only at HP
  clear hq
  go_wp2_with fail
  refine HP.out.mono ?_;rintro e6 w6 ⟨rfl,h6⟩
  unfold flt
  go_wp2_with fail
  exact⟨rfl,StP.bad (by first|exact HQ.out|rfl) rfl ((NW.bad hn5.out h6.out))⟩
 | ok s2 =>
  have HQ:=hide hq
  rw[hq]at HP
  simp only at HP
  clear hq
  go_wp2_with fail
  refine HP.out.mono ?_;rintro e6 w6 ⟨vs6,vb6,cs6,rfl,hk6,hn6,hbl6⟩
  go_wp2_with fail
  go_end0
  exact StP.ok (by first|exact HQ.out|rfl) rfl hk6.out (hn5.out.trans hn6.out) hbl6.out
set_option maxRecDepth 100000 in
set_option maxHeartbeats 3200000 in
theorem cstepD (K:KX) (vs vb:Value) (cs:List CB) (st:List UInt8) (x:XL) (w w0:World) (g:Nat) (m:MoL) (loc sp sr:Sl UInt8) (r:OpRow) (ml:Int) (h:Hid (CK w K vs vb cs st)) (he:Hid (KE w0 K g m loc sp sr)) (hv:Hid (InvP (psOf cs st))) (hs:st.length≤10000000) (hcl:cs.length≤100000) (hxi:Hid x.x.In) (hlab:Hid (Row w0 1 uD x.l)) (hb0:Hid (Below w0.heap.size w0 w)) (hz:Hid (MoSz m)) (hl:loc.l.length≤100000) (hll:x.l.l.length≤1000) (hrl:sr.l.length≤1000) (hcode:opRow x.code=some r) (hal:0≤x.al) (hml:Hid (w0.cell? ⟨0,0,none⟩=some (.int .i64 ml))) (hc0:ctrlC x.code=false) (hc1:varC x.code=false) (hc2:callC x.code=false) (hf:r.form=8) :
  Calls Tryz.prog 69 #[.pointer (some ⟨K.cb,0,none⟩),insV2 x] w (StP w K vs vb (stepP ⟨m.g,loc.l,sp.l,sr.l⟩ (psOf cs st) x.x r.form (widthN r.name.data.toList) (typesL r.takes) (typesL r.gives)) (.tuple #[])):=by
 have hR:stepP ⟨m.g,loc.l,sp.l,sr.l⟩ (psOf cs st) x.x r.form (widthN r.name.data.toList) (typesL r.takes) (typesL r.gives)=accessP ⟨m.g,loc.l,sp.l,sr.l⟩ (psOf cs st) x.x (widthN r.name.data.toList) (typesL r.takes) (typesL r.gives):=by
  unfold stepP
  rw[if_neg (by rw[show ctrlC x.x.code=false from hc0];simp),if_neg (by rw[show varC x.x.code=false from hc1];simp),if_neg (by rw[show callC x.x.code=false from hc2];simp),if_pos hf]
 rw[hR]
 clear hR
 obtain⟨W,hW,hbw,hx,hsz⟩:=ins_box w x
 obtain⟨ig,hig⟩:∃ig,w.heap.size=ig:=⟨_,rfl⟩
 rw[hig]at hx
 have hkW:=hide (h.out.quiet hbw)
 have hbW0:=hide (hb0.out.trans (hbw.mono hb0.out.size))
 have hnW:Hid (NW w W K.cb vs vb vs vb):=NW.of_below hbw
 have HF:=hide (find_some2 x.code r W hxi.out.c1 hxi.out.c2 hcode)
 unfold FindSome2 at HF
 have hok:=opRow_ok hcode
 have hr1:=hok.tl;have hr2:=hok.gl
 have hz1:=hz.out.mems;have hz2:=hz.out.gls
 have hk3:=he.out.c3
 have hsr:=hide he.out.sr
 have hbs:=he.out.bs
 have d0:W.cell? ⟨ig,0,none⟩=some (.int .i64 x.code):=cell_blk hx 0
 have HX:=hide hx;have HW:=hide hW;have HIG:=hide hig;have HBW:=hide hbw
 have HCODE:=hide hcode
 have HH:=h
 have HC0:=hide hc0
 have HC1:=hide hc1
 have HC2:=hide hc2
 clear hc0 hc1 hc2
 have HF8:=hide hf
 clear hf
 unfold insV2
 clear hW hx hig hbw hsz hcode hok
 go_enter Tryz.func69,Tryz.ntmps69
 go_upto_region 1 with fail
 rw[HW.out,HIG.out]
 go_wp2_with fail
 refine HF.out.mono ?_;rintro e w1 ⟨A1,c1,A2,c2,rfl,ho1,ho2,hap,h1⟩
 obtain⟨W3,hW3,hb3,hx3,hsz3⟩:=box_new w1 #[.int .i64 r.code,.string r.name,.int .i64 r.form,.slice A1 r.takes.size c1,.slice A2 r.gives.size c2] 199
 obtain⟨og,hog⟩:∃og,w1.heap.size=og:=⟨_,rfl⟩
 rw[hog]at hx3
 have hB3:Below W.heap.size W W3:=h1.out.trans (hb3.mono h1.out.size)
 have HB3:=hide hB3
 have hk3':=hide (hkW.out.quiet hB3)
 have hn3:=hide (hnW.out.trans (NW.of_below hB3))
 have hb30:=hide (hbW0.out.trans (hB3.mono hbW0.out.size))
 have hI3:=hide ((hB3.block ig (blk_lt HX.out)).trans HX.out)
 have hO3:=hide hx3
 have ho1':=hide (own_only3 (S:=[]) ho1.out (Only.of_below hb3) (by simp))
 have ho2':=hide (own_only3 (S:=[]) ho2.out (Only.of_below hb3) (by simp))
 have HW3:=hide hW3;have HOG:=hide hog
 clear hW3 hog hb3 hx3 hsz3 hB3 HF d0 h1 ho1 ho2
 have i0:W3.cell? ⟨ig,0,none⟩=some (.int .i64 x.code):=cell_blk hI3.out 0
 have i1:W3.cell? ⟨ig,1,none⟩=some (.int .u64 (x.a:Int)):=cell_blk hI3.out 1
 have i2:W3.cell? ⟨ig,2,none⟩=some (.int .u64 (x.b:Int)):=cell_blk hI3.out 2
 have i3:W3.cell? ⟨ig,3,none⟩=some (.int .i64 x.al):=cell_blk hI3.out 3
 have i4:W3.cell? ⟨ig,4,none⟩=some (.slice x.l.at_ x.l.l.length x.l.cap):=cell_blk hI3.out 4
 go_upto_region 3 with fail
 rw[HW3.out,HOG.out]
 have HN:=hide (cctrl_no K vs vb cs st x W3 hk3' HC0.out)
 unfold insV2 at HN
 go_wp2_with fail
 refine HN.out.mono ?_;rintro e w4 ⟨rfl,q4⟩
 have hk4:=hide (hk3'.out.quiet q4.out)
 have hk4':=hk4
 have hn4:=hide (hn3.out.trans (NW.of_below q4.out))
 have hb40:=hide (hb30.out.trans (q4.out.mono hb30.out.size))
 have hI4:=hide ((q4.out.block ig (blk_lt hI3.out)).trans hI3.out)
 have hO4:=hide ((q4.out.block og (blk_lt hO3.out)).trans hO3.out)
 clear i0 i1 i2 i3 i4
 have i0:w4.cell? ⟨ig,0,none⟩=some (.int .i64 x.code):=cell_blk hI4.out 0
 have i1:w4.cell? ⟨ig,1,none⟩=some (.int .u64 (x.a:Int)):=cell_blk hI4.out 1
 have i2:w4.cell? ⟨ig,2,none⟩=some (.int .u64 (x.b:Int)):=cell_blk hI4.out 2
 have i3:w4.cell? ⟨ig,3,none⟩=some (.int .i64 x.al):=cell_blk hI4.out 3
 have i4:w4.cell? ⟨ig,4,none⟩=some (.slice x.l.at_ x.l.l.length x.l.cap):=cell_blk hI4.out 4
 have HN2:=hide (cvar_no K vs vb cs st x w4 hk4' HC1.out)
 unfold insV2 at HN2
 clear HN
 go_wp2_with fail
 refine HN2.out.mono ?_;rintro e w5 ⟨rfl,q5⟩
 have hk5:=hide (hk4'.out.quiet q5.out)
 have hk5':=hk5
 have hn5:=hide (hn4.out.trans (NW.of_below q5.out))
 have hb50:=hide (hb40.out.trans (q5.out.mono hb40.out.size))
 have hI5:=hide ((q5.out.block ig (blk_lt hI4.out)).trans hI4.out)
 have hO5:=hide ((q5.out.block og (blk_lt hO4.out)).trans hO4.out)
 clear i0 i1 i2 i3 i4
 have i0:w5.cell? ⟨ig,0,none⟩=some (.int .i64 x.code):=cell_blk hI5.out 0
 have i1:w5.cell? ⟨ig,1,none⟩=some (.int .u64 (x.a:Int)):=cell_blk hI5.out 1
 have i2:w5.cell? ⟨ig,2,none⟩=some (.int .u64 (x.b:Int)):=cell_blk hI5.out 2
 have i3:w5.cell? ⟨ig,3,none⟩=some (.int .i64 x.al):=cell_blk hI5.out 3
 have i4:w5.cell? ⟨ig,4,none⟩=some (.slice x.l.at_ x.l.l.length x.l.cap):=cell_blk hI5.out 4
 have HN3:=hide (ccall_no K vs vb cs st x w5 hk5' HC2.out)
 unfold insV2 at HN3
 clear HN2
 go_wp2_with fail
 refine HN3.out.mono ?_;rintro e w7 ⟨rfl,q7⟩
 have hk7:=hide (hk5'.out.quiet q7.out)
 have hk7':=hk7
 have hn7:=hide (hn5.out.trans (NW.of_below q7.out))
 have hb70:=hide (hb50.out.trans (q7.out.mono hb50.out.size))
 have hI7:=hide ((q7.out.block ig (blk_lt hI5.out)).trans hI5.out)
 have hO7:=hide ((q7.out.block og (blk_lt hO5.out)).trans hO5.out)
 clear i0 i1 i2 i3 i4
 have i0:w7.cell? ⟨ig,0,none⟩=some (.int .i64 x.code):=cell_blk hI7.out 0
 have i1:w7.cell? ⟨ig,1,none⟩=some (.int .u64 (x.a:Int)):=cell_blk hI7.out 1
 have i2:w7.cell? ⟨ig,2,none⟩=some (.int .u64 (x.b:Int)):=cell_blk hI7.out 2
 have i3:w7.cell? ⟨ig,3,none⟩=some (.int .i64 x.al):=cell_blk hI7.out 3
 have i4:w7.cell? ⟨ig,4,none⟩=some (.slice x.l.at_ x.l.l.length x.l.cap):=cell_blk hI7.out 4
 have o1:w7.cell? ⟨og,0,none⟩=some (.int .i64 r.code):=cell_blk hO7.out 0
 have o2:w7.cell? ⟨og,1,none⟩=some (.string r.name):=cell_blk hO7.out 1
 have o3:w7.cell? ⟨og,2,none⟩=some (.int .i64 r.form):=cell_blk hO7.out 2
 have o4:w7.cell? ⟨og,3,none⟩=some (.slice A1 r.takes.size c1):=cell_blk hO7.out 3
 have o5:w7.cell? ⟨og,4,none⟩=some (.slice A2 r.gives.size c2):=cell_blk hO7.out 4
 clear HN3
 have HB37:=hide (q4.out.trans ((q5.out.trans (q7.out.mono q5.out.size)).mono q4.out.size))
 have ho7:=hide (own_only3 (S:=[]) ho1'.out (Only.of_below HB37.out) (by simp))
 have ho8:=hide (own_only3 (S:=[]) ho2'.out (Only.of_below HB37.out) (by simp))
 have HBW7:=hide (HB3.out.trans (HB37.out.mono HB3.out.size))
 have tf:(r.form==8)=true:=by simp[HF8.out]
 have HP:=hide (caccess_any K vs vb cs st x w7 W w0 g m loc sp sr r (typesL r.takes) (typesL r.gives) A1 A2 c1 c2 ml hkW HBW7 he hv hs hcl hxi hbW0 (by omega) HCODE.out HF8.out hal hml ho7 ho8 hap (by omega) (by omega))
 unfold StP insV2 at HP
 cases hq:accessP ⟨m.g,loc.l,sp.l,sr.l⟩ (psOf cs st) x.x (widthN r.name.data.toList) (typesL r.takes) (typesL r.gives) with
 | bad n =>
  have HQ:=hide hq
  rw[hq]at HP
  simp only at HP
  clear hq
  go_wp2_with fail
  refine HP.out.mono ?_;rintro e6 w6 ⟨rfl,h6⟩
  unfold flt
  go_wp2_with fail
  exact⟨rfl,StP.bad (by first|exact HQ.out|rfl) rfl ((NW.bad hnW.out h6.out))⟩
 | ok s2 =>
  have HQ:=hide hq
  rw[hq]at HP
  simp only at HP
  clear hq
  go_wp2_with fail
  refine HP.out.mono ?_;rintro e6 w6 ⟨vs6,vb6,cs6,rfl,hk6,hn6,hbl6⟩
  go_wp2_with fail
  go_end0
  exact StP.ok (by first|exact HQ.out|rfl) rfl hk6.out (hnW.out.trans hn6.out) hbl6.out
set_option maxRecDepth 100000 in
set_option maxHeartbeats 3200000 in
theorem cstepE (K:KX) (vs vb:Value) (cs:List CB) (st:List UInt8) (x:XL) (w w0:World) (g:Nat) (m:MoL) (loc sp sr:Sl UInt8) (r:OpRow) (ml:Int) (h:Hid (CK w K vs vb cs st)) (he:Hid (KE w0 K g m loc sp sr)) (hv:Hid (InvP (psOf cs st))) (hs:st.length≤10000000) (hcl:cs.length≤100000) (hxi:Hid x.x.In) (hlab:Hid (Row w0 1 uD x.l)) (hb0:Hid (Below w0.heap.size w0 w)) (hz:Hid (MoSz m)) (hl:loc.l.length≤100000) (hll:x.l.l.length≤1000) (hrl:sr.l.length≤1000) (hcode:opRow x.code=some r) (hal:0≤x.al) (hml:Hid (w0.cell? ⟨0,0,none⟩=some (.int .i64 ml))) (hc0:ctrlC x.code=false) (hc1:varC x.code=false) (hc2:callC x.code=false) (hf:r.form=9) :
  Calls Tryz.prog 69 #[.pointer (some ⟨K.cb,0,none⟩),insV2 x] w (StP w K vs vb (stepP ⟨m.g,loc.l,sp.l,sr.l⟩ (psOf cs st) x.x r.form (widthN r.name.data.toList) (typesL r.takes) (typesL r.gives)) (.tuple #[])):=by
 have hR:stepP ⟨m.g,loc.l,sp.l,sr.l⟩ (psOf cs st) x.x r.form (widthN r.name.data.toList) (typesL r.takes) (typesL r.gives)=bulkP ⟨m.g,loc.l,sp.l,sr.l⟩ (psOf cs st) x.x:=by
  unfold stepP
  rw[if_neg (by rw[show ctrlC x.x.code=false from hc0];simp),if_neg (by rw[show varC x.x.code=false from hc1];simp),if_neg (by rw[show callC x.x.code=false from hc2];simp),if_neg (by rw[hf];decide),if_pos (.inl hf)]
 rw[hR]
 clear hR
 obtain⟨W,hW,hbw,hx,hsz⟩:=ins_box w x
 obtain⟨ig,hig⟩:∃ig,w.heap.size=ig:=⟨_,rfl⟩
 rw[hig]at hx
 have hkW:=hide (h.out.quiet hbw)
 have hbW0:=hide (hb0.out.trans (hbw.mono hb0.out.size))
 have hnW:Hid (NW w W K.cb vs vb vs vb):=NW.of_below hbw
 have HF:=hide (find_some2 x.code r W hxi.out.c1 hxi.out.c2 hcode)
 unfold FindSome2 at HF
 have hok:=opRow_ok hcode
 have hr1:=hok.tl;have hr2:=hok.gl
 have hz1:=hz.out.mems;have hz2:=hz.out.gls
 have hk3:=he.out.c3
 have hsr:=hide he.out.sr
 have hbs:=he.out.bs
 have d0:W.cell? ⟨ig,0,none⟩=some (.int .i64 x.code):=cell_blk hx 0
 have HX:=hide hx;have HW:=hide hW;have HIG:=hide hig;have HBW:=hide hbw
 have HCODE:=hide hcode
 have HH:=h
 have HC0:=hide hc0
 have HC1:=hide hc1
 have HC2:=hide hc2
 clear hc0 hc1 hc2
 have HF8:=hide hf
 clear hf
 unfold insV2
 clear hW hx hig hbw hsz hcode hok
 go_enter Tryz.func69,Tryz.ntmps69
 go_upto_region 1 with fail
 rw[HW.out,HIG.out]
 go_wp2_with fail
 refine HF.out.mono ?_;rintro e w1 ⟨A1,c1,A2,c2,rfl,ho1,ho2,hap,h1⟩
 obtain⟨W3,hW3,hb3,hx3,hsz3⟩:=box_new w1 #[.int .i64 r.code,.string r.name,.int .i64 r.form,.slice A1 r.takes.size c1,.slice A2 r.gives.size c2] 199
 obtain⟨og,hog⟩:∃og,w1.heap.size=og:=⟨_,rfl⟩
 rw[hog]at hx3
 have hB3:Below W.heap.size W W3:=h1.out.trans (hb3.mono h1.out.size)
 have HB3:=hide hB3
 have hk3':=hide (hkW.out.quiet hB3)
 have hn3:=hide (hnW.out.trans (NW.of_below hB3))
 have hb30:=hide (hbW0.out.trans (hB3.mono hbW0.out.size))
 have hI3:=hide ((hB3.block ig (blk_lt HX.out)).trans HX.out)
 have hO3:=hide hx3
 have ho1':=hide (own_only3 (S:=[]) ho1.out (Only.of_below hb3) (by simp))
 have ho2':=hide (own_only3 (S:=[]) ho2.out (Only.of_below hb3) (by simp))
 have HW3:=hide hW3;have HOG:=hide hog
 clear hW3 hog hb3 hx3 hsz3 hB3 HF d0 h1 ho1 ho2
 have i0:W3.cell? ⟨ig,0,none⟩=some (.int .i64 x.code):=cell_blk hI3.out 0
 have i1:W3.cell? ⟨ig,1,none⟩=some (.int .u64 (x.a:Int)):=cell_blk hI3.out 1
 have i2:W3.cell? ⟨ig,2,none⟩=some (.int .u64 (x.b:Int)):=cell_blk hI3.out 2
 have i3:W3.cell? ⟨ig,3,none⟩=some (.int .i64 x.al):=cell_blk hI3.out 3
 have i4:W3.cell? ⟨ig,4,none⟩=some (.slice x.l.at_ x.l.l.length x.l.cap):=cell_blk hI3.out 4
 go_upto_region 3 with fail
 rw[HW3.out,HOG.out]
 have HN:=hide (cctrl_no K vs vb cs st x W3 hk3' HC0.out)
 unfold insV2 at HN
 go_wp2_with fail
 refine HN.out.mono ?_;rintro e w4 ⟨rfl,q4⟩
 have hk4:=hide (hk3'.out.quiet q4.out)
 have hk4':=hk4
 have hn4:=hide (hn3.out.trans (NW.of_below q4.out))
 have hb40:=hide (hb30.out.trans (q4.out.mono hb30.out.size))
 have hI4:=hide ((q4.out.block ig (blk_lt hI3.out)).trans hI3.out)
 have hO4:=hide ((q4.out.block og (blk_lt hO3.out)).trans hO3.out)
 clear i0 i1 i2 i3 i4
 have i0:w4.cell? ⟨ig,0,none⟩=some (.int .i64 x.code):=cell_blk hI4.out 0
 have i1:w4.cell? ⟨ig,1,none⟩=some (.int .u64 (x.a:Int)):=cell_blk hI4.out 1
 have i2:w4.cell? ⟨ig,2,none⟩=some (.int .u64 (x.b:Int)):=cell_blk hI4.out 2
 have i3:w4.cell? ⟨ig,3,none⟩=some (.int .i64 x.al):=cell_blk hI4.out 3
 have i4:w4.cell? ⟨ig,4,none⟩=some (.slice x.l.at_ x.l.l.length x.l.cap):=cell_blk hI4.out 4
 have HN2:=hide (cvar_no K vs vb cs st x w4 hk4' HC1.out)
 unfold insV2 at HN2
 clear HN
 go_wp2_with fail
 refine HN2.out.mono ?_;rintro e w5 ⟨rfl,q5⟩
 have hk5:=hide (hk4'.out.quiet q5.out)
 have hk5':=hk5
 have hn5:=hide (hn4.out.trans (NW.of_below q5.out))
 have hb50:=hide (hb40.out.trans (q5.out.mono hb40.out.size))
 have hI5:=hide ((q5.out.block ig (blk_lt hI4.out)).trans hI4.out)
 have hO5:=hide ((q5.out.block og (blk_lt hO4.out)).trans hO4.out)
 clear i0 i1 i2 i3 i4
 have i0:w5.cell? ⟨ig,0,none⟩=some (.int .i64 x.code):=cell_blk hI5.out 0
 have i1:w5.cell? ⟨ig,1,none⟩=some (.int .u64 (x.a:Int)):=cell_blk hI5.out 1
 have i2:w5.cell? ⟨ig,2,none⟩=some (.int .u64 (x.b:Int)):=cell_blk hI5.out 2
 have i3:w5.cell? ⟨ig,3,none⟩=some (.int .i64 x.al):=cell_blk hI5.out 3
 have i4:w5.cell? ⟨ig,4,none⟩=some (.slice x.l.at_ x.l.l.length x.l.cap):=cell_blk hI5.out 4
 have HN3:=hide (ccall_no K vs vb cs st x w5 hk5' HC2.out)
 unfold insV2 at HN3
 clear HN2
 go_wp2_with fail
 refine HN3.out.mono ?_;rintro e w7 ⟨rfl,q7⟩
 have hk7:=hide (hk5'.out.quiet q7.out)
 have hk7':=hk7
 have hn7:=hide (hn5.out.trans (NW.of_below q7.out))
 have hb70:=hide (hb50.out.trans (q7.out.mono hb50.out.size))
 have hI7:=hide ((q7.out.block ig (blk_lt hI5.out)).trans hI5.out)
 have hO7:=hide ((q7.out.block og (blk_lt hO5.out)).trans hO5.out)
 clear i0 i1 i2 i3 i4
 have i0:w7.cell? ⟨ig,0,none⟩=some (.int .i64 x.code):=cell_blk hI7.out 0
 have i1:w7.cell? ⟨ig,1,none⟩=some (.int .u64 (x.a:Int)):=cell_blk hI7.out 1
 have i2:w7.cell? ⟨ig,2,none⟩=some (.int .u64 (x.b:Int)):=cell_blk hI7.out 2
 have i3:w7.cell? ⟨ig,3,none⟩=some (.int .i64 x.al):=cell_blk hI7.out 3
 have i4:w7.cell? ⟨ig,4,none⟩=some (.slice x.l.at_ x.l.l.length x.l.cap):=cell_blk hI7.out 4
 have o1:w7.cell? ⟨og,0,none⟩=some (.int .i64 r.code):=cell_blk hO7.out 0
 have o2:w7.cell? ⟨og,1,none⟩=some (.string r.name):=cell_blk hO7.out 1
 have o3:w7.cell? ⟨og,2,none⟩=some (.int .i64 r.form):=cell_blk hO7.out 2
 have o4:w7.cell? ⟨og,3,none⟩=some (.slice A1 r.takes.size c1):=cell_blk hO7.out 3
 have o5:w7.cell? ⟨og,4,none⟩=some (.slice A2 r.gives.size c2):=cell_blk hO7.out 4
 clear HN3
 have HB37:=hide (q4.out.trans ((q5.out.trans (q7.out.mono q5.out.size)).mono q4.out.size))
 have ho7:=hide (own_only3 (S:=[]) ho1'.out (Only.of_below HB37.out) (by simp))
 have ho8:=hide (own_only3 (S:=[]) ho2'.out (Only.of_below HB37.out) (by simp))
 have HBW7:=hide (HB3.out.trans (HB37.out.mono HB3.out.size))
 have tf:(r.form==8)=false:=by simp[HF8.out]
 have tg:(r.form==9)=true:=by simp[HF8.out]
 have HP:=hide (cbulk_any K vs vb cs st x w7 w0 g m loc sp sr (.int .i64 r.code) (.string r.name) (.int .i64 r.form) (.slice A1 r.takes.size c1) (.slice A2 r.gives.size c2) hk7' he hv hs hcl hxi hb70 (by omega))
 unfold StP insV2 at HP
 cases hq:bulkP ⟨m.g,loc.l,sp.l,sr.l⟩ (psOf cs st) x.x with
 | bad n =>
  have HQ:=hide hq
  rw[hq]at HP
  simp only at HP
  clear hq
  go_wp2_with fail
  refine HP.out.mono ?_;rintro e6 w6 ⟨rfl,h6⟩
  unfold flt
  go_wp2_with fail
  exact⟨rfl,StP.bad (by first|exact HQ.out|rfl) rfl ((NW.bad hn7.out h6.out))⟩
 | ok s2 =>
  have HQ:=hide hq
  rw[hq]at HP
  simp only at HP
  clear hq
  go_wp2_with fail
  refine HP.out.mono ?_;rintro e6 w6 ⟨vs6,vb6,cs6,rfl,hk6,hn6,hbl6⟩
  go_wp2_with fail
  go_end0
  exact StP.ok (by first|exact HQ.out|rfl) rfl hk6.out (hn7.out.trans hn6.out) hbl6.out
set_option maxRecDepth 100000 in
set_option maxHeartbeats 3200000 in
theorem cstepF (K:KX) (vs vb:Value) (cs:List CB) (st:List UInt8) (x:XL) (w w0:World) (g:Nat) (m:MoL) (loc sp sr:Sl UInt8) (r:OpRow) (ml:Int) (h:Hid (CK w K vs vb cs st)) (he:Hid (KE w0 K g m loc sp sr)) (hv:Hid (InvP (psOf cs st))) (hs:st.length≤10000000) (hcl:cs.length≤100000) (hxi:Hid x.x.In) (hlab:Hid (Row w0 1 uD x.l)) (hb0:Hid (Below w0.heap.size w0 w)) (hz:Hid (MoSz m)) (hl:loc.l.length≤100000) (hll:x.l.l.length≤1000) (hrl:sr.l.length≤1000) (hcode:opRow x.code=some r) (hal:0≤x.al) (hml:Hid (w0.cell? ⟨0,0,none⟩=some (.int .i64 ml))) (hc0:ctrlC x.code=false) (hc1:varC x.code=false) (hc2:callC x.code=false) (hf:r.form=10) :
  Calls Tryz.prog 69 #[.pointer (some ⟨K.cb,0,none⟩),insV2 x] w (StP w K vs vb (stepP ⟨m.g,loc.l,sp.l,sr.l⟩ (psOf cs st) x.x r.form (widthN r.name.data.toList) (typesL r.takes) (typesL r.gives)) (.tuple #[])):=by
 have hR:stepP ⟨m.g,loc.l,sp.l,sr.l⟩ (psOf cs st) x.x r.form (widthN r.name.data.toList) (typesL r.takes) (typesL r.gives)=bulkP ⟨m.g,loc.l,sp.l,sr.l⟩ (psOf cs st) x.x:=by
  unfold stepP
  rw[if_neg (by rw[show ctrlC x.x.code=false from hc0];simp),if_neg (by rw[show varC x.x.code=false from hc1];simp),if_neg (by rw[show callC x.x.code=false from hc2];simp),if_neg (by rw[hf];decide),if_pos (.inr hf)]
 rw[hR]
 clear hR
 obtain⟨W,hW,hbw,hx,hsz⟩:=ins_box w x
 obtain⟨ig,hig⟩:∃ig,w.heap.size=ig:=⟨_,rfl⟩
 rw[hig]at hx
 have hkW:=hide (h.out.quiet hbw)
 have hbW0:=hide (hb0.out.trans (hbw.mono hb0.out.size))
 have hnW:Hid (NW w W K.cb vs vb vs vb):=NW.of_below hbw
 have HF:=hide (find_some2 x.code r W hxi.out.c1 hxi.out.c2 hcode)
 unfold FindSome2 at HF
 have hok:=opRow_ok hcode
 have hr1:=hok.tl;have hr2:=hok.gl
 have hz1:=hz.out.mems;have hz2:=hz.out.gls
 have hk3:=he.out.c3
 have hsr:=hide he.out.sr
 have hbs:=he.out.bs
 have d0:W.cell? ⟨ig,0,none⟩=some (.int .i64 x.code):=cell_blk hx 0
 have HX:=hide hx;have HW:=hide hW;have HIG:=hide hig;have HBW:=hide hbw
 have HCODE:=hide hcode
 have HH:=h
 have HC0:=hide hc0
 have HC1:=hide hc1
 have HC2:=hide hc2
 clear hc0 hc1 hc2
 have HF8:=hide hf
 clear hf
 unfold insV2
 clear hW hx hig hbw hsz hcode hok
 go_enter Tryz.func69,Tryz.ntmps69
 go_upto_region 1 with fail
 rw[HW.out,HIG.out]
 go_wp2_with fail
 refine HF.out.mono ?_;rintro e w1 ⟨A1,c1,A2,c2,rfl,ho1,ho2,hap,h1⟩
 obtain⟨W3,hW3,hb3,hx3,hsz3⟩:=box_new w1 #[.int .i64 r.code,.string r.name,.int .i64 r.form,.slice A1 r.takes.size c1,.slice A2 r.gives.size c2] 199
 obtain⟨og,hog⟩:∃og,w1.heap.size=og:=⟨_,rfl⟩
 rw[hog]at hx3
 have hB3:Below W.heap.size W W3:=h1.out.trans (hb3.mono h1.out.size)
 have HB3:=hide hB3
 have hk3':=hide (hkW.out.quiet hB3)
 have hn3:=hide (hnW.out.trans (NW.of_below hB3))
 have hb30:=hide (hbW0.out.trans (hB3.mono hbW0.out.size))
 have hI3:=hide ((hB3.block ig (blk_lt HX.out)).trans HX.out)
 have hO3:=hide hx3
 have ho1':=hide (own_only3 (S:=[]) ho1.out (Only.of_below hb3) (by simp))
 have ho2':=hide (own_only3 (S:=[]) ho2.out (Only.of_below hb3) (by simp))
 have HW3:=hide hW3;have HOG:=hide hog
 clear hW3 hog hb3 hx3 hsz3 hB3 HF d0 h1 ho1 ho2
 have i0:W3.cell? ⟨ig,0,none⟩=some (.int .i64 x.code):=cell_blk hI3.out 0
 have i1:W3.cell? ⟨ig,1,none⟩=some (.int .u64 (x.a:Int)):=cell_blk hI3.out 1
 have i2:W3.cell? ⟨ig,2,none⟩=some (.int .u64 (x.b:Int)):=cell_blk hI3.out 2
 have i3:W3.cell? ⟨ig,3,none⟩=some (.int .i64 x.al):=cell_blk hI3.out 3
 have i4:W3.cell? ⟨ig,4,none⟩=some (.slice x.l.at_ x.l.l.length x.l.cap):=cell_blk hI3.out 4
 go_upto_region 3 with fail
 rw[HW3.out,HOG.out]
 have HN:=hide (cctrl_no K vs vb cs st x W3 hk3' HC0.out)
 unfold insV2 at HN
 go_wp2_with fail
 refine HN.out.mono ?_;rintro e w4 ⟨rfl,q4⟩
 have hk4:=hide (hk3'.out.quiet q4.out)
 have hk4':=hk4
 have hn4:=hide (hn3.out.trans (NW.of_below q4.out))
 have hb40:=hide (hb30.out.trans (q4.out.mono hb30.out.size))
 have hI4:=hide ((q4.out.block ig (blk_lt hI3.out)).trans hI3.out)
 have hO4:=hide ((q4.out.block og (blk_lt hO3.out)).trans hO3.out)
 clear i0 i1 i2 i3 i4
 have i0:w4.cell? ⟨ig,0,none⟩=some (.int .i64 x.code):=cell_blk hI4.out 0
 have i1:w4.cell? ⟨ig,1,none⟩=some (.int .u64 (x.a:Int)):=cell_blk hI4.out 1
 have i2:w4.cell? ⟨ig,2,none⟩=some (.int .u64 (x.b:Int)):=cell_blk hI4.out 2
 have i3:w4.cell? ⟨ig,3,none⟩=some (.int .i64 x.al):=cell_blk hI4.out 3
 have i4:w4.cell? ⟨ig,4,none⟩=some (.slice x.l.at_ x.l.l.length x.l.cap):=cell_blk hI4.out 4
 have HN2:=hide (cvar_no K vs vb cs st x w4 hk4' HC1.out)
 unfold insV2 at HN2
 clear HN
 go_wp2_with fail
 refine HN2.out.mono ?_;rintro e w5 ⟨rfl,q5⟩
 have hk5:=hide (hk4'.out.quiet q5.out)
 have hk5':=hk5
 have hn5:=hide (hn4.out.trans (NW.of_below q5.out))
 have hb50:=hide (hb40.out.trans (q5.out.mono hb40.out.size))
 have hI5:=hide ((q5.out.block ig (blk_lt hI4.out)).trans hI4.out)
 have hO5:=hide ((q5.out.block og (blk_lt hO4.out)).trans hO4.out)
 clear i0 i1 i2 i3 i4
 have i0:w5.cell? ⟨ig,0,none⟩=some (.int .i64 x.code):=cell_blk hI5.out 0
 have i1:w5.cell? ⟨ig,1,none⟩=some (.int .u64 (x.a:Int)):=cell_blk hI5.out 1
 have i2:w5.cell? ⟨ig,2,none⟩=some (.int .u64 (x.b:Int)):=cell_blk hI5.out 2
 have i3:w5.cell? ⟨ig,3,none⟩=some (.int .i64 x.al):=cell_blk hI5.out 3
 have i4:w5.cell? ⟨ig,4,none⟩=some (.slice x.l.at_ x.l.l.length x.l.cap):=cell_blk hI5.out 4
 have HN3:=hide (ccall_no K vs vb cs st x w5 hk5' HC2.out)
 unfold insV2 at HN3
 clear HN2
 go_wp2_with fail
 refine HN3.out.mono ?_;rintro e w7 ⟨rfl,q7⟩
 have hk7:=hide (hk5'.out.quiet q7.out)
 have hk7':=hk7
 have hn7:=hide (hn5.out.trans (NW.of_below q7.out))
 have hb70:=hide (hb50.out.trans (q7.out.mono hb50.out.size))
 have hI7:=hide ((q7.out.block ig (blk_lt hI5.out)).trans hI5.out)
 have hO7:=hide ((q7.out.block og (blk_lt hO5.out)).trans hO5.out)
 clear i0 i1 i2 i3 i4
 have i0:w7.cell? ⟨ig,0,none⟩=some (.int .i64 x.code):=cell_blk hI7.out 0
 have i1:w7.cell? ⟨ig,1,none⟩=some (.int .u64 (x.a:Int)):=cell_blk hI7.out 1
 have i2:w7.cell? ⟨ig,2,none⟩=some (.int .u64 (x.b:Int)):=cell_blk hI7.out 2
 have i3:w7.cell? ⟨ig,3,none⟩=some (.int .i64 x.al):=cell_blk hI7.out 3
 have i4:w7.cell? ⟨ig,4,none⟩=some (.slice x.l.at_ x.l.l.length x.l.cap):=cell_blk hI7.out 4
 have o1:w7.cell? ⟨og,0,none⟩=some (.int .i64 r.code):=cell_blk hO7.out 0
 have o2:w7.cell? ⟨og,1,none⟩=some (.string r.name):=cell_blk hO7.out 1
 have o3:w7.cell? ⟨og,2,none⟩=some (.int .i64 r.form):=cell_blk hO7.out 2
 have o4:w7.cell? ⟨og,3,none⟩=some (.slice A1 r.takes.size c1):=cell_blk hO7.out 3
 have o5:w7.cell? ⟨og,4,none⟩=some (.slice A2 r.gives.size c2):=cell_blk hO7.out 4
 clear HN3
 have HB37:=hide (q4.out.trans ((q5.out.trans (q7.out.mono q5.out.size)).mono q4.out.size))
 have ho7:=hide (own_only3 (S:=[]) ho1'.out (Only.of_below HB37.out) (by simp))
 have ho8:=hide (own_only3 (S:=[]) ho2'.out (Only.of_below HB37.out) (by simp))
 have HBW7:=hide (HB3.out.trans (HB37.out.mono HB3.out.size))
 have tf:(r.form==8)=false:=by simp[HF8.out]
 have tg:(r.form==9)=false:=by simp[HF8.out]
 have th:(r.form==10)=true:=by simp[HF8.out]
 have HP:=hide (cbulk_any K vs vb cs st x w7 w0 g m loc sp sr (.int .i64 r.code) (.string r.name) (.int .i64 r.form) (.slice A1 r.takes.size c1) (.slice A2 r.gives.size c2) hk7' he hv hs hcl hxi hb70 (by omega))
 unfold StP insV2 at HP
 cases hq:bulkP ⟨m.g,loc.l,sp.l,sr.l⟩ (psOf cs st) x.x with
 | bad n =>
  have HQ:=hide hq
  rw[hq]at HP
  simp only at HP
  clear hq
  go_wp2_with fail
  refine HP.out.mono ?_;rintro e6 w6 ⟨rfl,h6⟩
  unfold flt
  go_wp2_with fail
  exact⟨rfl,StP.bad (by first|exact HQ.out|rfl) rfl ((NW.bad hn7.out h6.out))⟩
 | ok s2 =>
  have HQ:=hide hq
  rw[hq]at HP
  simp only at HP
  clear hq
  go_wp2_with fail
  refine HP.out.mono ?_;rintro e6 w6 ⟨vs6,vb6,cs6,rfl,hk6,hn6,hbl6⟩
  go_wp2_with fail
  go_end0
  exact StP.ok (by first|exact HQ.out|rfl) rfl hk6.out (hn7.out.trans hn6.out) hbl6.out
set_option maxRecDepth 100000 in
set_option maxHeartbeats 3200000 in
theorem cstepG (K:KX) (vs vb:Value) (cs:List CB) (st:List UInt8) (x:XL) (w w0:World) (g:Nat) (m:MoL) (loc sp sr:Sl UInt8) (r:OpRow) (ml:Int) (h:Hid (CK w K vs vb cs st)) (he:Hid (KE w0 K g m loc sp sr)) (hv:Hid (InvP (psOf cs st))) (hs:st.length≤10000000) (hcl:cs.length≤100000) (hxi:Hid x.x.In) (hlab:Hid (Row w0 1 uD x.l)) (hb0:Hid (Below w0.heap.size w0 w)) (hz:Hid (MoSz m)) (hl:loc.l.length≤100000) (hll:x.l.l.length≤1000) (hrl:sr.l.length≤1000) (hcode:opRow x.code=some r) (hal:0≤x.al) (hml:Hid (w0.cell? ⟨0,0,none⟩=some (.int .i64 ml))) (hc0:ctrlC x.code=false) (hc1:varC x.code=false) (hc2:callC x.code=false) (hf:r.form≠8∧r.form≠9∧r.form≠10) :
  Calls Tryz.prog 69 #[.pointer (some ⟨K.cb,0,none⟩),insV2 x] w (StP w K vs vb (stepP ⟨m.g,loc.l,sp.l,sr.l⟩ (psOf cs st) x.x r.form (widthN r.name.data.toList) (typesL r.takes) (typesL r.gives)) (.tuple #[])):=by
 have hR:stepP ⟨m.g,loc.l,sp.l,sr.l⟩ (psOf cs st) x.x r.form (widthN r.name.data.toList) (typesL r.takes) (typesL r.gives)=applyP (psOf cs st) (typesL r.takes) (typesL r.gives):=by
  unfold stepP
  rw[if_neg (by rw[show ctrlC x.x.code=false from hc0];simp),if_neg (by rw[show varC x.x.code=false from hc1];simp),if_neg (by rw[show callC x.x.code=false from hc2];simp),if_neg hf.1,if_neg (fun h=>h.elim hf.2.1 hf.2.2)]
 rw[hR]
 clear hR
 obtain⟨W,hW,hbw,hx,hsz⟩:=ins_box w x
 obtain⟨ig,hig⟩:∃ig,w.heap.size=ig:=⟨_,rfl⟩
 rw[hig]at hx
 have hkW:=hide (h.out.quiet hbw)
 have hbW0:=hide (hb0.out.trans (hbw.mono hb0.out.size))
 have hnW:Hid (NW w W K.cb vs vb vs vb):=NW.of_below hbw
 have HF:=hide (find_some2 x.code r W hxi.out.c1 hxi.out.c2 hcode)
 unfold FindSome2 at HF
 have hok:=opRow_ok hcode
 have hr1:=hok.tl;have hr2:=hok.gl
 have hz1:=hz.out.mems;have hz2:=hz.out.gls
 have hk3:=he.out.c3
 have hsr:=hide he.out.sr
 have hbs:=he.out.bs
 have d0:W.cell? ⟨ig,0,none⟩=some (.int .i64 x.code):=cell_blk hx 0
 have HX:=hide hx;have HW:=hide hW;have HIG:=hide hig;have HBW:=hide hbw
 have HCODE:=hide hcode
 have HH:=h
 have HC0:=hide hc0
 have HC1:=hide hc1
 have HC2:=hide hc2
 clear hc0 hc1 hc2
 have HF8:=hide hf
 clear hf
 unfold insV2
 clear hW hx hig hbw hsz hcode hok
 go_enter Tryz.func69,Tryz.ntmps69
 go_upto_region 1 with fail
 rw[HW.out,HIG.out]
 go_wp2_with fail
 refine HF.out.mono ?_;rintro e w1 ⟨A1,c1,A2,c2,rfl,ho1,ho2,hap,h1⟩
 obtain⟨W3,hW3,hb3,hx3,hsz3⟩:=box_new w1 #[.int .i64 r.code,.string r.name,.int .i64 r.form,.slice A1 r.takes.size c1,.slice A2 r.gives.size c2] 199
 obtain⟨og,hog⟩:∃og,w1.heap.size=og:=⟨_,rfl⟩
 rw[hog]at hx3
 have hB3:Below W.heap.size W W3:=h1.out.trans (hb3.mono h1.out.size)
 have HB3:=hide hB3
 have hk3':=hide (hkW.out.quiet hB3)
 have hn3:=hide (hnW.out.trans (NW.of_below hB3))
 have hb30:=hide (hbW0.out.trans (hB3.mono hbW0.out.size))
 have hI3:=hide ((hB3.block ig (blk_lt HX.out)).trans HX.out)
 have hO3:=hide hx3
 have ho1':=hide (own_only3 (S:=[]) ho1.out (Only.of_below hb3) (by simp))
 have ho2':=hide (own_only3 (S:=[]) ho2.out (Only.of_below hb3) (by simp))
 have HW3:=hide hW3;have HOG:=hide hog
 clear hW3 hog hb3 hx3 hsz3 hB3 HF d0 h1 ho1 ho2
 have i0:W3.cell? ⟨ig,0,none⟩=some (.int .i64 x.code):=cell_blk hI3.out 0
 have i1:W3.cell? ⟨ig,1,none⟩=some (.int .u64 (x.a:Int)):=cell_blk hI3.out 1
 have i2:W3.cell? ⟨ig,2,none⟩=some (.int .u64 (x.b:Int)):=cell_blk hI3.out 2
 have i3:W3.cell? ⟨ig,3,none⟩=some (.int .i64 x.al):=cell_blk hI3.out 3
 have i4:W3.cell? ⟨ig,4,none⟩=some (.slice x.l.at_ x.l.l.length x.l.cap):=cell_blk hI3.out 4
 go_upto_region 3 with fail
 rw[HW3.out,HOG.out]
 have HN:=hide (cctrl_no K vs vb cs st x W3 hk3' HC0.out)
 unfold insV2 at HN
 go_wp2_with fail
 refine HN.out.mono ?_;rintro e w4 ⟨rfl,q4⟩
 have hk4:=hide (hk3'.out.quiet q4.out)
 have hk4':=hk4
 have hn4:=hide (hn3.out.trans (NW.of_below q4.out))
 have hb40:=hide (hb30.out.trans (q4.out.mono hb30.out.size))
 have hI4:=hide ((q4.out.block ig (blk_lt hI3.out)).trans hI3.out)
 have hO4:=hide ((q4.out.block og (blk_lt hO3.out)).trans hO3.out)
 clear i0 i1 i2 i3 i4
 have i0:w4.cell? ⟨ig,0,none⟩=some (.int .i64 x.code):=cell_blk hI4.out 0
 have i1:w4.cell? ⟨ig,1,none⟩=some (.int .u64 (x.a:Int)):=cell_blk hI4.out 1
 have i2:w4.cell? ⟨ig,2,none⟩=some (.int .u64 (x.b:Int)):=cell_blk hI4.out 2
 have i3:w4.cell? ⟨ig,3,none⟩=some (.int .i64 x.al):=cell_blk hI4.out 3
 have i4:w4.cell? ⟨ig,4,none⟩=some (.slice x.l.at_ x.l.l.length x.l.cap):=cell_blk hI4.out 4
 have HN2:=hide (cvar_no K vs vb cs st x w4 hk4' HC1.out)
 unfold insV2 at HN2
 clear HN
 go_wp2_with fail
 refine HN2.out.mono ?_;rintro e w5 ⟨rfl,q5⟩
 have hk5:=hide (hk4'.out.quiet q5.out)
 have hk5':=hk5
 have hn5:=hide (hn4.out.trans (NW.of_below q5.out))
 have hb50:=hide (hb40.out.trans (q5.out.mono hb40.out.size))
 have hI5:=hide ((q5.out.block ig (blk_lt hI4.out)).trans hI4.out)
 have hO5:=hide ((q5.out.block og (blk_lt hO4.out)).trans hO4.out)
 clear i0 i1 i2 i3 i4
 have i0:w5.cell? ⟨ig,0,none⟩=some (.int .i64 x.code):=cell_blk hI5.out 0
 have i1:w5.cell? ⟨ig,1,none⟩=some (.int .u64 (x.a:Int)):=cell_blk hI5.out 1
 have i2:w5.cell? ⟨ig,2,none⟩=some (.int .u64 (x.b:Int)):=cell_blk hI5.out 2
 have i3:w5.cell? ⟨ig,3,none⟩=some (.int .i64 x.al):=cell_blk hI5.out 3
 have i4:w5.cell? ⟨ig,4,none⟩=some (.slice x.l.at_ x.l.l.length x.l.cap):=cell_blk hI5.out 4
 have HN3:=hide (ccall_no K vs vb cs st x w5 hk5' HC2.out)
 unfold insV2 at HN3
 clear HN2
 go_wp2_with fail
 refine HN3.out.mono ?_;rintro e w7 ⟨rfl,q7⟩
 have hk7:=hide (hk5'.out.quiet q7.out)
 have hk7':=hk7
 have hn7:=hide (hn5.out.trans (NW.of_below q7.out))
 have hb70:=hide (hb50.out.trans (q7.out.mono hb50.out.size))
 have hI7:=hide ((q7.out.block ig (blk_lt hI5.out)).trans hI5.out)
 have hO7:=hide ((q7.out.block og (blk_lt hO5.out)).trans hO5.out)
 clear i0 i1 i2 i3 i4
 have i0:w7.cell? ⟨ig,0,none⟩=some (.int .i64 x.code):=cell_blk hI7.out 0
 have i1:w7.cell? ⟨ig,1,none⟩=some (.int .u64 (x.a:Int)):=cell_blk hI7.out 1
 have i2:w7.cell? ⟨ig,2,none⟩=some (.int .u64 (x.b:Int)):=cell_blk hI7.out 2
 have i3:w7.cell? ⟨ig,3,none⟩=some (.int .i64 x.al):=cell_blk hI7.out 3
 have i4:w7.cell? ⟨ig,4,none⟩=some (.slice x.l.at_ x.l.l.length x.l.cap):=cell_blk hI7.out 4
 have o1:w7.cell? ⟨og,0,none⟩=some (.int .i64 r.code):=cell_blk hO7.out 0
 have o2:w7.cell? ⟨og,1,none⟩=some (.string r.name):=cell_blk hO7.out 1
 have o3:w7.cell? ⟨og,2,none⟩=some (.int .i64 r.form):=cell_blk hO7.out 2
 have o4:w7.cell? ⟨og,3,none⟩=some (.slice A1 r.takes.size c1):=cell_blk hO7.out 3
 have o5:w7.cell? ⟨og,4,none⟩=some (.slice A2 r.gives.size c2):=cell_blk hO7.out 4
 clear HN3
 have HB37:=hide (q4.out.trans ((q5.out.trans (q7.out.mono q5.out.size)).mono q4.out.size))
 have ho7:=hide (own_only3 (S:=[]) ho1'.out (Only.of_below HB37.out) (by simp))
 have ho8:=hide (own_only3 (S:=[]) ho2'.out (Only.of_below HB37.out) (by simp))
 have HBW7:=hide (HB3.out.trans (HB37.out.mono HB3.out.size))
 have tf:(r.form==8)=false:=by simpa using HF8.out.1
 have tg:(r.form==9)=false:=by simpa using HF8.out.2.1
 have th:(r.form==10)=false:=by simpa using HF8.out.2.2
 obtain⟨_,hl1⟩:=own_row ho7.out
 obtain⟨_,hl2⟩:=own_row ho8.out
 have hp1:=hide (own_resIn hkW.out ho7.out)
 have hp2:=hide (own_resIn hkW.out ho8.out)
 have HA:=hide (capply_any K vs vb cs st ⟨A1,c1,typesL r.takes⟩ ⟨A2,c2,typesL r.gives⟩ w7 hk7' hp1 hp2 hv hs hcl (by show (typesL r.takes).length≤_;omega) (by show (typesL r.gives).length≤_;omega))
 simp only at HA
 rw[hl1,hl2]at HA
 clear hl1 hl2
 cases hq:applyP (psOf cs st) (typesL r.takes) (typesL r.gives) with
 | bad n =>
  have HQ:=hide hq
  rw[hq]at HA
  unfold StQ at HA
  simp only at HA
  clear hq
  go_wp2_with fail
  refine HA.out.mono ?_;rintro e6 w6 ⟨rfl,h6⟩
  unfold flt
  go_wp2_with fail
  exact⟨rfl,StP.bad (by first|exact HQ.out|rfl) rfl ((NW.bad hn7.out h6.out))⟩
 | ok s2 =>
  have HQ:=hide hq
  rw[hq]at HA
  unfold StQ at HA
  simp only at HA
  clear hq
  go_wp2_with fail
  refine HA.out.mono ?_;rintro e6 w6 ⟨vs6,rfl,hk6,hn6,hbl6⟩
  go_wp2_with fail
  go_end0
  exact StP.ok (by first|exact HQ.out|rfl) rfl hk6.out (hn7.out.trans hn6.out) hbl6.out
theorem cstep_any (K:KX) (vs vb:Value) (cs:List CB) (st:List UInt8) (x:XL) (w w0:World) (g:Nat) (m:MoL) (loc sp sr:Sl UInt8) (r:OpRow) (ml:Int) (h:Hid (CK w K vs vb cs st)) (he:Hid (KE w0 K g m loc sp sr)) (hv:Hid (InvP (psOf cs st))) (hs:st.length≤10000000) (hcl:cs.length≤100000) (hxi:Hid x.x.In) (hlab:Hid (Row w0 1 uD x.l)) (hb0:Hid (Below w0.heap.size w0 w)) (hz:Hid (MoSz m)) (hl:loc.l.length≤100000) (hll:x.l.l.length≤1000) (hrl:sr.l.length≤1000) (hcode:opRow x.code=some r) (hal:0≤x.al) (hml:Hid (w0.cell? ⟨0,0,none⟩=some (.int .i64 ml))) :
  Calls Tryz.prog 69 #[.pointer (some ⟨K.cb,0,none⟩),insV2 x] w (StP w K vs vb (stepP ⟨m.g,loc.l,sp.l,sr.l⟩ (psOf cs st) x.x r.form (widthN r.name.data.toList) (typesL r.takes) (typesL r.gives)) (.tuple #[])):=by
 cases h0:ctrlC x.code with
 | true=>exact cstepA K vs vb cs st x w w0 g m loc sp sr r ml h he hv hs hcl hxi hlab hb0 hz hl hll hrl hcode hal hml h0
 | false =>
 cases h1:varC x.code with
 | true=>exact cstepB K vs vb cs st x w w0 g m loc sp sr r ml h he hv hs hcl hxi hlab hb0 hz hl hll hrl hcode hal hml h0 h1
 | false =>
 cases h2:callC x.code with
 | true=>exact cstepC K vs vb cs st x w w0 g m loc sp sr r ml h he hv hs hcl hxi hlab hb0 hz hl hll hrl hcode hal hml h0 h1 h2
 | false =>
 by_cases h8:r.form=8
 ·exact cstepD K vs vb cs st x w w0 g m loc sp sr r ml h he hv hs hcl hxi hlab hb0 hz hl hll hrl hcode hal hml h0 h1 h2 h8
 by_cases h9:r.form=9
 ·exact cstepE K vs vb cs st x w w0 g m loc sp sr r ml h he hv hs hcl hxi hlab hb0 hz hl hll hrl hcode hal hml h0 h1 h2 h9
 by_cases h10:r.form=10
 ·exact cstepF K vs vb cs st x w w0 g m loc sp sr r ml h he hv hs hcl hxi hlab hb0 hz hl hll hrl hcode hal hml h0 h1 h2 h10
 exact cstepG K vs vb cs st x w w0 g m loc sp sr r ml h he hv hs hcl hxi hlab hb0 hz hl hll hrl hcode hal hml h0 h1 h2 ⟨h8,h9,h10⟩
end Go.Proofs.YtomppgohoplemaaGreat
