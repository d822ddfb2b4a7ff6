import Derived.Test.YtomppgohoplemaaGreatNBD
import Derived.Test.YtomppgohoplemaaGreatNBF
import Derived.Test.YtomppgohoplemaaGreatNAU
set_option linter.unusedVariables false
namespace Go.Proofs.YtomppgohoplemaaGreat
open Go.RowKit
theorem own_row {w:World} {base n c:Nat} {A:Option Addr} {l:List UInt8} (h:w.ownsRow base 133 1 (.slice A n c) n (l.map B)):Row w 1 bD ⟨A,c,l⟩∧l.length=n:=by
 have hl:l.length=n:=by have:=h.1;simpa using this
 obtain⟨A2,c2,hv,h1,h2⟩:=own_form h
 injection hv with _ _ hc
 subst hc
 subst hl
 exact⟨⟨by rw[map_bD];exact Reads.of_own h,h1,h2⟩,rfl⟩
theorem own_resIn {wS w:World} {K:KX} {vs vb:Value} {cs:List CB} {st:List UInt8} {n c:Nat} {A:Option Addr} {l:List UInt8} (hk:CK wS K vs vb cs st) (h:w.ownsRow wS.heap.size 133 1 (.slice A n c) n (l.map B)):ResIn w K vs vb ⟨A,c,l⟩:=by
 obtain⟨hr,hl⟩:=own_row h
 refine⟨hr,fun h0 ad ha=>?_,fun h0 ad ha e=>?_⟩
 rotate_left
 ·obtain⟨g,c',hv⟩:=own_some h (by rw[←hl];exact h0)
  injection hv with hA _ _
  have hq:(Value.slice A n c).ownBlock=some g:=by rw[hA];rfl
  have h1:=own_ge h g hq
  have ha2:A=some ad:=ha
  rw[hA]at ha2
  injection ha2 with ha2
  subst ha2
  have h4:g<wS.heap.size:=hk.fz _ e
  omega
 obtain⟨g,c',hv⟩:=own_some h (by rw[←hl];exact h0)
 injection hv with hA _ _
 have hq:(Value.slice A n c).ownBlock=some g:=by rw[hA];rfl
 have h1:=own_ge h g hq
 have h2:=own_lt h g hq
 have ha2:A=some ad:=ha
 rw[hA]at ha2
 injection ha2 with ha2
 subst ha2
 have h3:=hk.size.2
 exact⟨h2,by show g≠K.cb;omega,fun e=>by have:=own_lt hk.os _ e;have h4:g<wS.heap.size:=this;omega,fun e=>by have:=own_lt hk.ob _ e;have h4:g<wS.heap.size:=this;omega⟩
theorem takes_rows:(∀r∈opRows1,(r.form != 8||decide (0<r.takes.size))=true)∧(∀r∈opRows2,(r.form != 8||decide (0<r.takes.size))=true):=by decide +kernel
theorem takes_ok {c:Int} {r:OpRow} (h:opRow c=some r) (hf:r.form=8):0<r.takes.size:=by
 unfold opRow at h
 have key:(r.form != 8||decide (0<r.takes.size))=true→0<r.takes.size:=fun h=>by rw[hf]at h;simpa using h
 cases h1:opRows1.find? (fun r=>r.code==c) with
 | some x=>rw[h1]at h;simp at h;subst h;exact key (takes_rows.1 _ (List.mem_of_find?_eq_some h1))
 | none =>
  rw[h1]at h
  cases h2:opRows2.find? (fun r=>r.code==c) with
  | some x=>rw[h2]at h;simp at h;subst h;exact key (takes_rows.2 _ (List.mem_of_find?_eq_some h2))
  | none =>
   rw[h2]at h
   simp only[Option.none_or]at h
   unfold numRow at h
   cases h3:numSpan c with
   | none=>rw[h3]at h;cases h
   | some s=>rw[h3]at h;simp at h;subst h;exact absurd hf (spanRow_form s c)
set_option maxRecDepth 100000 in
set_option maxHeartbeats 6400000 in
theorem caccess_any (K:KX) (vs vb:Value) (cs:List CB) (st:List UInt8) (x:XL) (w wS w0:World) (g:Nat) (m:MoL) (loc sp sr:Sl UInt8) (r:OpRow) (tk gv:List UInt8) (A1 A2:Option Addr) (c1 c2:Nat) (ml:Int)
  (hS:Hid (CK wS K vs vb cs st)) (hbS:Hid (Below wS.heap.size wS w)) (he:Hid (KE w0 K g m loc sp sr)) (hv:Hid (InvP (psOf cs st))) (hs:st.length≤10000000) (hcl:cs.length≤100000) (hxi:Hid x.x.In) (hbS0:Hid (Below w0.heap.size w0 wS)) (hm:m.mems.l.length≤100000)
  (hcode:opRow x.code=some r) (hf:r.form=8) (hal:0≤x.al) (hml:Hid (w0.cell? ⟨0,0,none⟩=some (.int .i64 ml)))
  (ho1:Hid (w.ownsRow wS.heap.size 133 1 (.slice A1 r.takes.size c1) r.takes.size (tk.map B))) (ho2:Hid (w.ownsRow wS.heap.size 133 1 (.slice A2 r.gives.size c2) r.gives.size (gv.map B)))
  (hap:Hid (∀q,(Value.slice A1 r.takes.size c1).ownBlock=some q→(Value.slice A2 r.gives.size c2).ownBlock≠some q)) (htl:r.takes.size≤1000) (hgl:r.gives.size≤1000) :
  Calls Tryz.prog 110 #[.pointer (some ⟨K.cb,0,none⟩),insV2 x,.agg #[.int .i64 r.code,.string r.name,.int .i64 r.form,.slice A1 r.takes.size c1,.slice A2 r.gives.size c2]] w (StP wS K vs vb (accessP ⟨m.g,loc.l,sp.l,sr.l⟩ (psOf cs st) x.x (widthN r.name.data.toList) tk gv) (.tuple #[])):=by
 have hR:accessP ⟨m.g,loc.l,sp.l,sr.l⟩ (psOf cs st) x.x (widthN r.name.data.toList) tk gv=((memP ⟨m.g,loc.l,sp.l,sr.l⟩ x.a).then fun l=>need (l.wide||decide (x.b≤4294967295)) 2 (need (decide (x.al<8)&&decide (2^x.al.toNat≤widthN r.name.data.toList)) 5 (applyP (psOf cs st) (tk.set 0 (adrT l)) gv))):=rfl
 have h:=hide (hS.out.quiet hbS.out)
 have hb0:=hide (hbS0.out.trans (hbS.out.mono hbS0.out.size))
 have hcw:=fun (V:World) (hV:Below w.heap.size w V)=>cwidth_any x.code r V ml hxi.out.c1 hxi.out.c2 hcode hf (hide ((hb0.out.cell (World.block_lt_of_cell? w0 _ hml.out)).trans hml.out |> fun q=>(hV.cell (World.block_lt_of_cell? w _ q)).trans q))
 obtain⟨N,hN⟩:∃N,widthN r.name.data.toList=N:=⟨_,rfl⟩
 rw[hN]at hR hcw
 rw[hN,hR]
 have htp:=takes_ok hcode hf
 obtain⟨q,c1',hvq⟩:=own_some ho1.out htp
 injection hvq with hA1 _ hC1
 subst hA1
 subst hC1
 obtain⟨hr1,hl1⟩:=own_row ho1.out
 obtain⟨hr2,hl2⟩:=own_row ho2.out
 obtain⟨rc,rn,rf,rt,rg⟩:=r
 simp only at hf ho1 ho2 hap htp hl1 hl2 htl hgl hN ⊢
 subst hf
 obtain⟨tn,htn⟩:∃tn,rt.size=tn:=⟨_,rfl⟩
 obtain⟨gn,hgn⟩:∃gn,rg.size=gn:=⟨_,rfl⟩
 rw[htn]at ho1 hl1 hap htp htl
 rw[hgn]at ho2 hl2 hap hgl
 rw[htn,hgn]
 have hq1:(Value.slice (some ⟨q,0,none⟩) tn c1).ownBlock=some q:=rfl
 have hqge:=own_ge ho1.out q hq1
 have hqlt:=own_lt ho1.out q hq1
 have nk:K.cb≠q:=by have:=hS.out.size.2;omega
 have nvs:vs.ownBlock≠some q:=fun e=>by have:=own_lt hS.out.os q e;omega
 have nvb:vb.ownBlock≠some q:=fun e=>by have:=own_lt hS.out.ob q e;omega
 have nrr:Hid (∀b∈cs,0<b.res.l.length→∀ad,b.res.at_=some ad→ad.block≠q):=fun b hb h0 ad ha=>by have:=((hS.out.rr b hb).apart h0 ad ha).1;omega
 have hgv:=hide (own_resIn hS.out ho2.out)
 have ngv:Hid (0<gv.length→∀ad,A2=some ad→ad.block≠q):=fun h0 ad ha=>by
  obtain⟨g2,c2',hv2⟩:=own_some ho2.out (by omega)
  injection hv2 with hA _ _
  rw[hA]at ha
  injection ha with ha
  subst ha
  have:=hap.out q hq1
  rw[hA]at this
  exact fun e=>this (by rw[show (Value.slice (some ⟨g2,0,none⟩) gn c2).ownBlock=some g2 from rfl];rw[show g2=q from e])
 obtain⟨t0,ht0⟩:∃t0,tk[0]?=some t0:=⟨_,List.getElem?_eq_getElem (by omega)⟩
 have hn0:Hid (NW wS w K.cb vs vb vs vb):=NW.of_below hbS.out
 have HCW:=hide hcw
 have HQ:=hide hq1;have HGE:=hide hqge
 obtain⟨W1,hW1,hbw1,hx1,hsz1⟩:=ins_box w x
 obtain⟨ig,hig⟩:∃ig,w.heap.size=ig:=⟨_,rfl⟩
 rw[hig]at hx1 hsz1 hqlt
 obtain⟨W,hW2,hbw2,hx2,hsz2⟩:=box_new W1 #[.int .i64 rc,.string rn,.int .i64 8,.slice (some ⟨q,0,none⟩) tn c1,.slice A2 gn c2] 199
 rw[hsz1]at hx2 hsz2
 have hbw:Below w.heap.size w W:=hbw1.trans (hbw2.mono hbw1.size)
 have hx:W.heap[ig]?=some (.cells #[.int .i64 x.code,.int .u64 (x.a:Int),.int .u64 (x.b:Int),.int .i64 x.al,.slice x.l.at_ x.l.l.length x.l.cap] 131 (0,0)):=(hbw2.block ig (blk_lt hx1)).trans hx1
 have hkW:=hide (h.out.quiet hbw)
 have HNW:Hid (NW wS W K.cb vs vb vs vb):=hn0.out.trans (NW.of_below hbw)
 have hbW0:=hide (hb0.out.trans (hbw.mono hb0.out.size))
 have HBW:=hide hbw
 have ha64:=hxi.out.a
 have hb64:=hxi.out.b
 have HL:=hide (cmemory_any vs vb cs st x.a W sp.l hkW he hbW0 hm ha64)
 have d0:W.cell? ⟨ig,0,none⟩=some (.int .i64 x.code):=cell_blk hx 0
 have d1:W.cell? ⟨ig,1,none⟩=some (.int .u64 (x.a:Int)):=cell_blk hx 1
 have HX:=hide hx;have HX2:=hide hx2;have HW1:=hide hW1;have HW2:=hide hW2;have HIG:=hide hig
 obtain⟨R,hRR⟩:∃R,((memP ⟨m.g,loc.l,sp.l,sr.l⟩ x.a).then fun l=>need (l.wide||decide (x.b≤4294967295)) 2 (need (decide (x.al<8)&&decide (2^x.al.toNat≤N)) 5 (applyP (psOf cs st) (tk.set 0 (adrT l)) gv)))=R:=⟨_,rfl⟩
 rw[hRR]
 have HR:=hide hRR
 have HKS:=hS
 unfold insV2
 clear hcode hN htn hgn hr1 hr2 hR hRR hq1 hqge hW1 hW2 hx hx1 hx2 hig hbw hbw1 hbw2 hsz1 hsz2 hap hcw
 cases hq:memP ⟨m.g,loc.l,sp.l,sr.l⟩ x.a with
 | bad n =>
  have hend:Hid (R=.bad n):=by show _=_;rw[←HR.out,hq];rfl
  rw[hq]at HL
  unfold ValP at HL
  simp only at HL
  clear HR hq
  go_enter Tryz.func110,Tryz.ntmps110
  go_upto_region 1 with fail
  rw[HW1.out,HIG.out,HW2.out]
  go_wp2_with fail
  refine HL.out.mono ?_;rintro e w5 ⟨rfl,h5⟩
  unfold flt
  go_wp2_with fail
  exact⟨rfl,StP.bad hend.out rfl (Bad.of (HNW.out.trans (NW.of_below h5.out)))⟩
 | ok l =>
  replace HR:Hid ((need (l.wide||decide (x.b≤4294967295)) 2 (need (decide (x.al<8)&&decide (2^x.al.toNat≤N)) 5 (applyP (psOf cs st) (tk.set 0 (adrT l)) gv)))=R):=by show _=_;rw[←HR.out,hq];rfl
  rw[hq]at HL
  unfold ValP lmV at HL
  simp only at HL
  clear hq
  have HA:=hide (caddr_any l)
  unfold lmV at HA
  obtain⟨a,hadr⟩:∃a,adrT l=a:=⟨_,rfl⟩
  rw[hadr]at HR HA
  obtain⟨mn,mx,wd⟩:=l
  simp only at HR HL HA
  clear hadr
  go_enter Tryz.func110,Tryz.ntmps110
  go_upto_region 1 with fail
  rw[HW1.out,HIG.out,HW2.out]
  go_wp2_with fail
  refine HL.out.mono ?_;rintro e w3 ⟨rfl,h3⟩
  obtain⟨W3,hW3,hb3,hx3,hsz3⟩:=box_new w3 #[.int .i64 mn,.int .i64 mx,.bool wd] 179
  obtain⟨lg,hlg⟩:∃lg,w3.heap.size=lg:=⟨_,rfl⟩
  rw[hlg]at hx3
  have hB3:Below W.heap.size W W3:=h3.out.trans (hb3.mono h3.out.size)
  have HB3:=hide hB3
  have hk3:=hide (hkW.out.quiet hB3)
  have hn3:=hide (HNW.out.trans (NW.of_below hB3))
  have HI:=hide ((hB3.block ig (blk_lt HX.out)).trans HX.out)
  have HO:=hide ((hB3.block (ig+1) (blk_lt HX2.out)).trans HX2.out)
  have HLM:=hide hx3;have HW3:=hide hW3;have HLG:=hide hlg
  clear hW3 hlg hb3 hx3 hsz3 hB3 d0 d1 HL
  have i2:W3.cell? ⟨ig,2,none⟩=some (.int .u64 (x.b:Int)):=cell_blk HI.out 2
  have l2:W3.cell? ⟨lg,2,none⟩=some (.bool wd):=cell_blk HLM.out 2
  have hw3:=hide (HBW.out.trans (HB3.out.mono HBW.out.size))
  go_upto_region 2 with fail
  rw[HW3.out,HLG.out]
  cases hok:(wd||decide (x.b≤4294967295)) with
  | false =>
   rw[hok]at HR
   have hend:Hid (R=.bad 2):=HR.out.symm
   rw[Bool.or_eq_false_iff]at hok
   obtain⟨hwd,hxb⟩:=hok
   rw[hwd]at l2
   have hxb2:decide ((x.b:Int)≤4294967295)=false:=by rw[decide_eq_false_iff_not]at hxb ⊢;omega
   clear HR hxb
   go_wp2_with fail
   refine(must_no 2 2 rfl _).mono ?_;rintro e w5 ⟨rfl,rfl⟩
   unfold flt
   go_wp2_with fail
   exact⟨rfl,StP.bad hend.out rfl (Bad.of hn3.out)⟩
  | true =>
   rw[hok]at HR
   replace HR:Hid ((need (decide (x.al<8)&&decide (2^x.al.toNat≤N)) 5 (applyP (psOf cs st) (tk.set 0 a) gv))=R):=HR
   go_cut [] (fun wx=>wx=W3)
   case first =>
    cases wd with
    | true =>
     clear hok
     go_wp2_with fail
     refine(must_yes _ _).mono ?_;rintro e w5 ⟨rfl,rfl⟩
     go_wp2_with fail
     go_meet
     rfl
    | false =>
     have hxb2:decide ((x.b:Int)≤4294967295)=true:=by rw[Bool.false_or,decide_eq_true_eq]at hok;rw[decide_eq_true_eq];omega
     clear hok
     go_wp2_with fail
     refine(must_yes _ _).mono ?_;rintro e w5 ⟨rfl,rfl⟩
     go_wp2_with fail
     go_meet
     rfl
   have hwc:=hcut
   rw[hwc]
   clear hwc hok
   have i0:W3.cell? ⟨ig,0,none⟩=some (.int .i64 x.code):=cell_blk HI.out 0
   go_wp2_with fail
   refine(HCW.out _ hw3.out).mono ?_;rintro e w5 ⟨rfl,h5⟩
   have hw5:=hide (hw3.out.trans (h5.out.mono hw3.out.size))
   have hk5:=hide (hk3.out.quiet h5.out)
   have hn5:=hide (hn3.out.trans (NW.of_below h5.out))
   have HI5:=hide ((h5.out.block ig (blk_lt HI.out)).trans HI.out)
   have HO5:=hide ((h5.out.block (ig+1) (blk_lt HO.out)).trans HO.out)
   have HL5:=hide ((h5.out.block lg (blk_lt HLM.out)).trans HLM.out)
   have i3:w5.cell? ⟨ig,3,none⟩=some (.int .i64 x.al):=cell_blk HI5.out 3
   clear i0 i2 l2 h5
   by_cases h8:x.al<8
   ·have t8:decide (x.al<8)=true:=decide_eq_true h8
    obtain⟨k,hk⟩:∃k:Nat,x.al=(k:Int):=⟨x.al.toNat,by omega⟩
    have hkn:x.al.toNat=k:=by rw[hk];rfl
    have hk8:k<8:=by omega
    rw[t8,hkn]at HR
    clear t8 hkn h8
    by_cases hN:2^k≤N
    ·replace HR:Hid (applyP (psOf cs st) (tk.set 0 a) gv=R):=by show _=_;rw[←HR.out,decide_eq_true hN];rfl
     go_upto_region 4 with fail
     go_cut [] (fun wx=>wx=w5)
     case first =>
      rw[hk]at i3
      rcases(show k=0∨k=1∨k=2∨k=3∨k=4∨k=5∨k=6∨k=7 from by omega)with rfl|rfl|rfl|rfl|rfl|rfl|rfl|rfl
      ·have hN2:(1:Int)≤(N:Int):=by have h:1≤N:=hN;omega
       clear hN hk
       go_wp2_with fail
       refine(must_yes _ _).mono ?_;rintro e w6 ⟨rfl,rfl⟩
       go_wp2_with fail
       go_meet
       rfl
      ·have hN2:(2:Int)≤(N:Int):=by have h:2≤N:=hN;omega
       clear hN hk
       go_wp2_with fail
       refine(must_yes _ _).mono ?_;rintro e w6 ⟨rfl,rfl⟩
       go_wp2_with fail
       go_meet
       rfl
      ·have hN2:(4:Int)≤(N:Int):=by have h:4≤N:=hN;omega
       clear hN hk
       go_wp2_with fail
       refine(must_yes _ _).mono ?_;rintro e w6 ⟨rfl,rfl⟩
       go_wp2_with fail
       go_meet
       rfl
      ·have hN2:(8:Int)≤(N:Int):=by have h:8≤N:=hN;omega
       clear hN hk
       go_wp2_with fail
       refine(must_yes _ _).mono ?_;rintro e w6 ⟨rfl,rfl⟩
       go_wp2_with fail
       go_meet
       rfl
      ·have hN2:(16:Int)≤(N:Int):=by have h:16≤N:=hN;omega
       clear hN hk
       go_wp2_with fail
       refine(must_yes _ _).mono ?_;rintro e w6 ⟨rfl,rfl⟩
       go_wp2_with fail
       go_meet
       rfl
      ·have hN2:(32:Int)≤(N:Int):=by have h:32≤N:=hN;omega
       clear hN hk
       go_wp2_with fail
       refine(must_yes _ _).mono ?_;rintro e w6 ⟨rfl,rfl⟩
       go_wp2_with fail
       go_meet
       rfl
      ·have hN2:(64:Int)≤(N:Int):=by have h:64≤N:=hN;omega
       clear hN hk
       go_wp2_with fail
       refine(must_yes _ _).mono ?_;rintro e w6 ⟨rfl,rfl⟩
       go_wp2_with fail
       go_meet
       rfl
      ·have hN2:(128:Int)≤(N:Int):=by have h:128≤N:=hN;omega
       clear hN hk
       go_wp2_with fail
       refine(must_yes _ _).mono ?_;rintro e w6 ⟨rfl,rfl⟩
       go_wp2_with fail
       go_meet
       rfl
     have hwc:=hcut
     rw[hwc]
     clear hwc hk hN hk8 i3
     obtain⟨o3,hown5⟩:∃o:Unit,w5.ownsRow wS.heap.size 133 1 (.slice (some ⟨q,0,none⟩) tn c1) tn (tk.map B):=⟨(),own_only3 (S:=[]) ho1.out (Only.of_below hw5.out) (by simp)⟩
     have HOWN:=hide hown5
     have y0:w5.cell? ⟨q,0,none⟩=some (.int .u8 (t0.toNat:Int)):=hown5.cells (g:=q) rfl 0 _ (by rw[List.getElem?_map,ht0];rfl)
     have z0:=own_free hown5 (g:=q) rfl 0
     have I3:=fun k:ExtW w5=>k.cell (show w5.cell? ⟨ig+1,3,none⟩=some (.slice (some ⟨q,0,none⟩) tn c1)from cell_blk HO5.out 3)
     have L0:=fun k:ExtW w5=>k.cell (show w5.cell? ⟨lg,0,none⟩=some (.int .i64 mn)from cell_blk HL5.out 0)
     have L1:=fun k:ExtW w5=>k.cell (show w5.cell? ⟨lg,1,none⟩=some (.int .i64 mx)from cell_blk HL5.out 1)
     have L2:=fun k:ExtW w5=>k.cell (show w5.cell? ⟨lg,2,none⟩=some (.bool wd)from cell_blk HL5.out 2)
     have hidx:(0:Int)<(tn:Int):=by omega
     clear o3 hown5
     go_upto_region 5 with fail
     refine wp_region_ext_last (l:=[_,_,_,_,_]) (o:=_) (by kernel_rfl) (by kernel_rfl) (by kernel_rfl) (by kernel_rfl) ?_
     repeat (go_big_quiet_step (first|(with_reducible exact ext_call (HA.out _))))
     refine wpQuiet_nil ?_
     intro k
     have hb6:=hide (hw5.out.trans (k.b.mono hw5.out.size))
     have hownk:=own_only3 (S:=[]) HOWN.out (Only.of_below k.b) (by simp)
     have y1:k.w.cell? ⟨q,0,none⟩=some (.int .u8 (t0.toNat:Int)):=k.cell y0
     have z1:=own_free hownk (g:=q) rfl 0
     have hO:Only [q] k.w (k.w.setCell ⟨q,0,none⟩ (.int .u8 (a.toNat:Int))):=Only.setCell k.w (p:=⟨q,0,none⟩) (by simp) _
     have own6:=own_cast (n':=tn) (xs':=(tk.set 0 a).map B) (own_setCell hownk (g:=q) rfl 0 (by omega) (.int .u8 (a.toNat:Int))) rfl (by rw[List.map_set];rfl)
     obtain⟨W6,hW6⟩:∃W6,k.w.setCell ⟨q,0,none⟩ (.int .u8 (a.toNat:Int))=W6:=⟨_,rfl⟩
     rw[hW6]at hO own6
     have hk6:=hide ((hk5.out.quiet k.b).other hO nk nvs nvb nrr.out)
     have hn6:=hide ((hn5.out.trans (NW.of_below k.b)).then_new hO HGE.out)
     have htk6:=hide (own_resIn HKS.out own6)
     have hgv6:=hide ((hgv.out.step (NW.of_below hb6.out)).other hO ngv.out)
     have hO6:W6.heap[ig+1]?=some (.cells #[.int .i64 rc,.string rn,.int .i64 8,.slice (some ⟨q,0,none⟩) tn c1,.slice A2 gn c2] 199 (0,0)):=(hO.block (ig+1) (Nat.lt_of_lt_of_le (blk_lt HO5.out) k.b.size) (by simp;omega)).trans ((k.b.block (ig+1) (blk_lt HO5.out)).trans HO5.out)
     have o3:W6.cell? ⟨ig+1,3,none⟩=some (.slice (some ⟨q,0,none⟩) tn c1):=cell_blk hO6 3
     have o4:W6.cell? ⟨ig+1,4,none⟩=some (.slice A2 gn c2):=cell_blk hO6 4
     have HAP:=hide (capply_any K vs vb cs st ⟨some ⟨q,0,none⟩,c1,tk.set 0 a⟩ ⟨A2,c2,gv⟩ W6 hk6 htk6 hgv6 hv hs hcl (by simp;omega) (by show gv.length≤_;omega))
     simp only at HAP
     rw[show (tk.set 0 a).length=tn from by rw[List.length_set,hl1],hl2]at HAP
     have HW6:=hide hW6
     clear hW6 hO own6 hO6 I3 L0 L1 L2 y0 z0 hownk
     go_upto_region 6 with fail
     rw[HW6.out]
     clear y1 z1
     cases hq:applyP (psOf cs st) (tk.set 0 a) gv with
     | bad n =>
      rw[hq]at HAP HR
      unfold StQ at HAP
      simp only at HAP
      have hend:Hid (R=.bad n):=HR.out.symm
      clear hq HR
      go_wp2_with fail
      refine HAP.out.mono ?_;rintro e6 w6 ⟨rfl,h6⟩
      unfold flt
      go_wp2_with fail
      exact⟨rfl,StP.bad hend.out rfl ((NW.bad hn6.out h6.out))⟩
     | ok s2 =>
      rw[hq]at HAP HR
      unfold StQ at HAP
      simp only at HAP
      have hend:Hid (R=.ok s2):=HR.out.symm
      clear hq HR
      go_wp2_with fail
      refine HAP.out.mono ?_;rintro e6 w6 ⟨vs6,rfl,hk7,hn7,hbl7⟩
      go_wp2_with fail
      go_end0
      exact StP.ok hend.out rfl hk7.out (hn6.out.trans hn7.out) hbl7.out
    ·have hend:Hid (R=.bad 5):=by show _=_;rw[←HR.out,decide_eq_false hN];rfl
     rw[hk]at i3
     clear HR
     rcases(show k=0∨k=1∨k=2∨k=3∨k=4∨k=5∨k=6∨k=7 from by omega)with rfl|rfl|rfl|rfl|rfl|rfl|rfl|rfl
     ·have hN2:decide ((1:Int)≤(N:Int))=false:=by have h:¬1≤N:=hN;rw[decide_eq_false_iff_not];omega
      clear hN hk
      go_wp2_with fail
      refine(must_no 5 5 rfl _).mono ?_;rintro e w6 ⟨rfl,rfl⟩
      unfold flt
      go_wp2_with fail
      exact⟨rfl,StP.bad hend.out rfl (Bad.of hn5.out)⟩
     ·have hN2:decide ((2:Int)≤(N:Int))=false:=by have h:¬2≤N:=hN;rw[decide_eq_false_iff_not];omega
      clear hN hk
      go_wp2_with fail
      refine(must_no 5 5 rfl _).mono ?_;rintro e w6 ⟨rfl,rfl⟩
      unfold flt
      go_wp2_with fail
      exact⟨rfl,StP.bad hend.out rfl (Bad.of hn5.out)⟩
     ·have hN2:decide ((4:Int)≤(N:Int))=false:=by have h:¬4≤N:=hN;rw[decide_eq_false_iff_not];omega
      clear hN hk
      go_wp2_with fail
      refine(must_no 5 5 rfl _).mono ?_;rintro e w6 ⟨rfl,rfl⟩
      unfold flt
      go_wp2_with fail
      exact⟨rfl,StP.bad hend.out rfl (Bad.of hn5.out)⟩
     ·have hN2:decide ((8:Int)≤(N:Int))=false:=by have h:¬8≤N:=hN;rw[decide_eq_false_iff_not];omega
      clear hN hk
      go_wp2_with fail
      refine(must_no 5 5 rfl _).mono ?_;rintro e w6 ⟨rfl,rfl⟩
      unfold flt
      go_wp2_with fail
      exact⟨rfl,StP.bad hend.out rfl (Bad.of hn5.out)⟩
     ·have hN2:decide ((16:Int)≤(N:Int))=false:=by have h:¬16≤N:=hN;rw[decide_eq_false_iff_not];omega
      clear hN hk
      go_wp2_with fail
      refine(must_no 5 5 rfl _).mono ?_;rintro e w6 ⟨rfl,rfl⟩
      unfold flt
      go_wp2_with fail
      exact⟨rfl,StP.bad hend.out rfl (Bad.of hn5.out)⟩
     ·have hN2:decide ((32:Int)≤(N:Int))=false:=by have h:¬32≤N:=hN;rw[decide_eq_false_iff_not];omega
      clear hN hk
      go_wp2_with fail
      refine(must_no 5 5 rfl _).mono ?_;rintro e w6 ⟨rfl,rfl⟩
      unfold flt
      go_wp2_with fail
      exact⟨rfl,StP.bad hend.out rfl (Bad.of hn5.out)⟩
     ·have hN2:decide ((64:Int)≤(N:Int))=false:=by have h:¬64≤N:=hN;rw[decide_eq_false_iff_not];omega
      clear hN hk
      go_wp2_with fail
      refine(must_no 5 5 rfl _).mono ?_;rintro e w6 ⟨rfl,rfl⟩
      unfold flt
      go_wp2_with fail
      exact⟨rfl,StP.bad hend.out rfl (Bad.of hn5.out)⟩
     ·have hN2:decide ((128:Int)≤(N:Int))=false:=by have h:¬128≤N:=hN;rw[decide_eq_false_iff_not];omega
      clear hN hk
      go_wp2_with fail
      refine(must_no 5 5 rfl _).mono ?_;rintro e w6 ⟨rfl,rfl⟩
      unfold flt
      go_wp2_with fail
      exact⟨rfl,StP.bad hend.out rfl (Bad.of hn5.out)⟩
   ·have t8:decide (x.al<8)=false:=decide_eq_false h8
    have hend:Hid (R=.bad 5):=by show _=_;rw[←HR.out,t8];rfl
    clear h8 HR
    go_wp2_with fail
    refine(must_no 5 5 rfl _).mono ?_;rintro e w6 ⟨rfl,rfl⟩
    unfold flt
    go_wp2_with fail
    exact⟨rfl,StP.bad hend.out rfl (Bad.of hn5.out)⟩
end Go.Proofs.YtomppgohoplemaaGreat
