import Derived.Test.YtomppgohoplemaaGreatNBT
set_option linter.unusedVariables false
namespace Go.Proofs.YtomppgohoplemaaGreat
open Go.RowKit
def ToM (m:MoL) (w:World) (e:Ending) (w':World):Prop :=
 ∃(g:Nat) (m2:MoL),e=.returned (.pointer (some ⟨g,0,none⟩))∧Hid (MoAt w' g m2)∧Hid (m2.g=m.g)∧Hid (MoSm m2)∧Hid (Below w.heap.size w w')
theorem BdF.only_lt {w w':World} {lo:Nat} {y:BdL} {S:List Nat} (h:BdF w lo y) (ho:Only S w w') (hS:∀x∈S,x<lo):BdF w' lo y:=⟨h.loc.only_lt ho hS,h.ls.only_lt ho hS⟩
theorem drop_take {α β:Type} {f:α→β} {l:List α} {k:Nat} {x:α} (h:l[k]?=some x):(l.take (k+1)).map f=(l.take k).map f++[f x]:=by
 rw[List.take_add_one,h,List.map_append]
 rfl
theorem TS.done {w w0:World} {mg:Nat} {m:MoL} {A1 A2:Option Addr} {n1 c1 n2 c2:Nat} {zs:List SgL} {ys:List FuL} (h:TS w mg m (.slice A1 n1 c1) (.slice A2 n2 c2) zs ys) (hm:MoIn w m) (hs:MoSm m) (hz:zs.map SgL.g=m.sigs.l.map SgL.g) (hy:ys.map FuL.g=m.funcs.l.map FuL.g) :
  ∃m2,MoAt w mg m2∧m2.g=m.g∧MoSm m2:=by
 obtain⟨A1',c1',e1,h1,h2⟩:=own_form h.os
 injection e1 with _ e12 e13
 subst e12 e13
 obtain⟨A2',c2',e2,h3,h4⟩:=own_form h.of
 injection e2 with _ e22 e23
 subst e22 e23
 have hg:(⟨⟨A1,c1,zs⟩,m.imps,⟨A2,c2,ys⟩,m.table,m.mems,m.gls,m.exs,m.start,m.els,m.das⟩:MoL).g=m.g:=by
  show Mo.mk _ _ _ _ _ _ _ _ _ _=Mo.mk _ _ _ _ _ _ _ _ _ _
  rw[hz,hy]
 have hnum:∀y∈ys,∃y'∈m.funcs.l,y'.g=y.g:=fun y hy2=>by
  have:y.g∈m.funcs.l.map FuL.g:=by rw[←hy];exact List.mem_map.2 ⟨y,hy2,rfl⟩
  exact List.mem_map.1 this
 have hsig:∀z∈zs,∃z'∈m.sigs.l,z'.g=z.g:=fun z hz2=>by
  have:z.g∈m.sigs.l.map SgL.g:=by rw[←hz];exact List.mem_map.2 ⟨z,hz2,rfl⟩
  exact List.mem_map.1 this
 refine⟨⟨⟨A1,c1,zs⟩,m.imps,⟨A2,c2,ys⟩,m.table,m.mems,m.gls,m.exs,m.start,m.els,m.das⟩,⟨h.blk,?_⟩,hg,?_⟩
 ·refine⟨(RowF.of_own h.os rfl).row,fun z hz=>⟨(h.sp z hz).1.row.row,(h.sp z hz).2.row.row⟩,hm.imps,hm.imp,(RowF.of_own h.of rfl).row,fun y hy2=>?_,hm.table,hm.mems,hm.mem,hm.gls,hm.gl,hm.exs,hm.ex,hm.start,hm.els,hm.el,hm.das,hm.da⟩
  obtain⟨y',hy',he⟩:=hnum y hy2
  obtain⟨p1,p2,p3⟩:=h.fp y hy2
  obtain⟨k1,k2⟩:=hm.func y' hy'
  have e1:y'.sig=y.sig:=congrArg MFu.sig he
  have e2:y'.bd.l.l.map XL.x=y.bd.l.l.map XL.x:=congrArg (fun f=>f.bd.l) he
  refine⟨by rw[←e1];exact k1,p1.row.row,p2.row.row,fun x hx=>(p3 x hx).row.row,fun x hx=>?_⟩
  have hx2:x.x∈y'.bd.l.l.map XL.x:=by rw[e2];exact List.mem_map.2 ⟨x,hx,rfl⟩
  obtain⟨x',hx',he2⟩:=List.mem_map.1 hx2
  rw[←he2]
  exact k2.num x' hx'
 ·have l1:zs.length=m.sigs.l.length:=by have:=congrArg List.length hz;simpa using this
  have l2:ys.length=m.funcs.l.length:=by have:=congrArg List.length hy;simpa using this
  refine⟨by show zs.length≤_;rw[l1];exact hs.sigs,fun z hz2=>?_,hs.imps,hs.imp,by show ys.length≤_;rw[l2];exact hs.funcs,fun y hy2=>?_,hs.mems,hs.gls,hs.exs,hs.ex,hs.els,hs.el,hs.das,hs.da⟩
  ·obtain⟨z',hz',he⟩:=hsig z hz2
   have:=hs.sig z' hz'
   have e1:z'.p.l=z.p.l:=congrArg MSg.p he
   have e2:z'.r.l=z.r.l:=congrArg MSg.r he
   rw[e1,e2]at this
   exact this
  ·obtain⟨y',hy',he⟩:=hnum y hy2
   obtain⟨b1,b2,b3⟩:=hs.func y' hy'
   have e1:y'.bd.loc.l=y.bd.loc.l:=congrArg (fun f=>f.bd.loc) he
   have e2:y'.bd.l.l.map XL.x=y.bd.l.l.map XL.x:=congrArg (fun f=>f.bd.l) he
   rw[e1]at b1
   refine⟨b1,by have:=congrArg List.length e2;simp at this;omega,fun x hx=>?_⟩
   have hx2:x.x∈y'.bd.l.l.map XL.x:=by rw[e2];exact List.mem_map.2 ⟨x,hx,rfl⟩
   obtain⟨x',hx',he2⟩:=List.mem_map.1 hx2
   have e3:x'.l.l=x.l.l:=congrArg XI.l he2
   have:=b3 x' hx'
   rw[e3]at this
   exact this
set_option maxRecDepth 100000 in
set_option maxHeartbeats 6400000 in
theorem lto_any (m:MoL) (w:World) (h:Hid (MoIn w m)) (hs:Hid (MoSm m)) :
  Calls Tryz.prog 8 #[.agg m.cs.toArray] w (ToM m w):=by
 obtain⟨W1,hW1,hb1,hx1,hs1⟩:=box_new w m.cs.toArray 31
 obtain⟨W,hW,hb2,hx2,hs2⟩:=box_new W1 #[.slice none 0 0,m.imps.val,.slice none 0 0,.int .i64 m.table,m.mems.val,m.gls.val,m.exs.val,.int .i64 m.start,m.els.val,m.das.val] 82
 obtain⟨xg,hxg⟩:∃xg,w.heap.size=xg:=⟨_,rfl⟩
 rw[hxg]at hx1 hs1
 obtain⟨mg,hmg⟩:∃mg,xg+1=mg:=⟨_,rfl⟩
 rw[hmg]at hs1
 rw[hs1]at hx2 hs2
 have hb:Below w.heap.size w W:=hb1.trans (hb2.mono hb1.size)
 have hx1W:=(hb2.block xg (by omega)).trans hx1
 have T0:Hid (TS W mg m (.slice none 0 0) (.slice none 0 0) [] []):=⟨hx2,own_nil _ _ _ _,own_nil _ _ _ _,(fun q e=>by cases e),(fun z hz=>by simp at hz),(fun y hy=>by simp at hy)⟩
 have HCL:Hid (∀V,Below mg W V→V.cell? ⟨xg,0,none⟩=some (.slice m.sigs.at_ m.sigs.l.length m.sigs.cap)∧V.cell? ⟨xg,2,none⟩=some (.slice m.funcs.at_ m.funcs.l.length m.funcs.cap)∧MoIn V m∧Below w.heap.size w V):=fun V hV=>by
  have hk:=(hV.block xg (by omega)).trans hx1W
  have hwV:Below w.heap.size w V:=hb.trans (hV.mono (by omega))
  exact⟨cell_blk hk 0,cell_blk hk 2,h.out.below hwV,hwV⟩
 have c1:W1.cell? ⟨xg,1,none⟩=some (.slice m.imps.at_ m.imps.l.length m.imps.cap):=cell_blk hx1 1
 have c4:W1.cell? ⟨xg,4,none⟩=some (.slice m.mems.at_ m.mems.l.length m.mems.cap):=cell_blk hx1 4
 have c5:W1.cell? ⟨xg,5,none⟩=some (.slice m.gls.at_ m.gls.l.length m.gls.cap):=cell_blk hx1 5
 have c6:W1.cell? ⟨xg,6,none⟩=some (.slice m.exs.at_ m.exs.l.length m.exs.cap):=cell_blk hx1 6
 have c8:W1.cell? ⟨xg,8,none⟩=some (.slice m.els.at_ m.els.l.length m.els.cap):=cell_blk hx1 8
 have c9:W1.cell? ⟨xg,9,none⟩=some (.slice m.das.at_ m.das.l.length m.das.cap):=cell_blk hx1 9
 have c3:W1.cell? ⟨xg,3,none⟩=some (.int .i64 m.table):=cell_blk hx1 3
 have c7:W1.cell? ⟨xg,7,none⟩=some (.int .i64 m.start):=cell_blk hx1 7
 have HW1:=hide hW1;have HW:=hide hW;have HXG:=hide hxg;have HMG:=hide hmg;have HS1:=hide hs1
 have hsW:mg≤W.heap.size:=by omega
 have z1:=hs.out.sigs;have z2:=hs.out.funcs
 clear hW1 hW hb1 hb2 hb hx1 hx2 hs1 hs2 hxg hmg hx1W
 unfold MoL.cs Sl.val at HW1 ⊢
 unfold Sl.val at HW
 go_enter Tryz.func8,Tryz.ntmps8
 go_upto_region 1 with fail
 rw[HW1.out,HXG.out]
 go_upto_region 2 with fail
 rw[HS1.out,HW.out]
 clear c1 c3 c4 c5 c6 c7 c8 c9
 go_wp2_with fail
 go_loopw [4] (fun i w1=>∃(k:Nat) (zs:List SgL) (sv:Value),i=.int .i64 k∧k≤m.sigs.l.length∧zs.length=k∧Hid (TS w1 mg m sv (.slice none 0 0) zs [])∧Hid (zs.map SgL.g=(m.sigs.l.take k).map SgL.g)∧Hid (Below mg W w1)) (fun i _=>m.sigs.l.length-(intOf i).toNat)
 case atStart=>exact⟨0,[],_,rfl,by omega,rfl,T0,rfl,Below.refl _ _⟩
 case round =>
  obtain⟨k,zs,sv,rfl,hk,hzl,ht,hz,hbw⟩:=hrel
  have HZL:=hide hzl
  clear hzl
  obtain⟨c0,c2,hin,hwV⟩:=HCL.out _ hbw.out
  have HIN:=hide hin;have HWV:=hide hwV
  clear hin hwV
  by_cases hlt:k<m.sigs.l.length
  ·obtain⟨fv,hfv0⟩:∃fv:Value,fv=.slice none 0 0:=⟨_,rfl⟩
   obtain⟨ys,hys0⟩:∃ys:List FuL,ys=[]:=⟨_,rfl⟩
   rw[←hfv0,←hys0]at ht
   have HFV0:=hide hfv0;have HYS0:=hide hys0
   clear hfv0 hys0
   obtain⟨z,hzk⟩:∃z,m.sigs.l[k]?=some z:=⟨_,List.getElem?_eq_getElem hlt⟩
   have hzm:=List.mem_of_getElem? hzk
   obtain⟨ad,ha,hal,k0,kj⟩:=HIN.out.sigs.at_ (fun _=>rfl) hzk
   have q0:wr.cell? (ad.add (k*2))=some (.slice z.p.at_ z.p.l.length z.p.cap):=k0 _ rfl (by omega)
   have q1:wr.cell? ⟨(ad.add (k*2)).block,(ad.add (k*2)).off+1,none⟩=some (.slice z.r.at_ z.r.l.length z.r.cap):=kj 1 (by omega) (by omega) _ rfl
   obtain⟨L,hL⟩:∃L,wr.heap.size=L:=⟨_,rfl⟩
   have hmL:mg<L:=by rw[←hL];exact blk_lt ht.out.blk
   have hsv:∀q,sv.ownBlock=some q→q<L:=fun q hq=>by rw[←hL];exact own_lt ht.out.os q hq
   have hfv:∀q,fv.ownBlock=some q→q<L:=fun q hq=>by rw[←hL];exact own_lt ht.out.of q hq
   have hSm:∀x∈mg::sv.ownBlock.toList,mg≤x∧x<L:=fun x hx=>by
    rcases List.mem_cons.1 hx with e|e
    ·subst e;exact⟨Nat.le_refl _,hmL⟩
    ·have e2:=Option.mem_toList.1 e;have:=own_ge ht.out.os x e2;exact⟨by omega,hsv x e2⟩
   have HX:Hid (∀V,Only (mg::sv.ownBlock.toList) wr V→V.cell? ⟨xg,0,none⟩=some (.slice m.sigs.at_ m.sigs.l.length m.sigs.cap)∧V.cell? (ad.add (k*2))=some (.slice z.p.at_ z.p.l.length z.p.cap)∧V.cell? ⟨(ad.add (k*2)).block,(ad.add (k*2)).off+1,none⟩=some (.slice z.r.at_ z.r.l.length z.r.cap)∧Row V 1 bD z.p∧Row V 1 bD z.r∧L≤V.heap.size):=fun V hV=>by
    have hbV:Below mg wr V:=hV.below (by omega) (fun x hx=>(hSm x hx).1)
    have hb9:=hbw.out.trans hbV
    obtain⟨e0,e2,e3,_⟩:=HCL.out V hb9
    have hk9:=e3.sigs.at_ (fun _=>rfl) hzk
    obtain⟨ad9,ha9,_,k09,kj9⟩:=hk9
    have e9:ad9=ad:=by rw[ha]at ha9;injection ha9 with e;exact e.symm
    subst e9
    exact⟨e0,k09 _ rfl (by omega),kj9 1 (by omega) (by omega) _ rfl,(e3.sig z hzm).1,(e3.sig z hzm).2,by rw[←hL];exact hV.size⟩
   have hzp:=hs.out.sig z hzm
   have HZK:=hide hzk;have HLL:=hide hL;have HSM:=hide hSm;have HSV:=hide hsv;have HFV:=hide hfv;have HAD:=hide ha
   have hroom:Room zs.length 1 48:=room_of (by have:=HZL.out;omega) (by omega)
   have HMGx:=HMG.out
   rw[show m.sigs.at_=some ad from ha]at c0
   clear hzk hzm ha k0 kj hL hSm hsv hfv hal
   go_upto_region 5 with fail
   refine wp_region_factsD grew_ext (Only.ext (mg::sv.ownBlock.toList)) (fun _ _ h=>Only.of_below h) [4,21,24] 24 (factsOf [fun yy _=>yy=.pointer (some ⟨mg,0,none⟩),
    fun yy _=>yy=.pointer (some ⟨mg,0,none⟩),
    fun yy _=>yy=.pointer (some ⟨mg,0,none⟩),
    fun yy _=>yy=.pointer (some ⟨mg,0,none⟩),
    fun yy W=>yy=sv∧TS W mg m sv fv zs ys,
    fun yy _=>yy=.pointer (some ⟨xg,0,none⟩),
    fun yy _=>yy=.slice (some ad) m.sigs.l.length m.sigs.cap,
    fun yy _=>yy=.int .i64 (k:Int),
    fun yy _=>yy=.pointer (some (ad.add (k*2))),
    fun yy _=>yy=.pointer (some (ad.add (k*2))),
    fun yy _=>yy=.slice z.p.at_ z.p.l.length z.p.cap,
    fun yy W=>∃s2:Sl UInt8,yy=.slice s2.at_ s2.l.length s2.cap∧s2.l=z.p.l∧RowF W L 1 bD s2,
    fun yy _=>yy=.pointer (some ⟨xg,0,none⟩),
    fun yy _=>yy=.slice (some ad) m.sigs.l.length m.sigs.cap,
    fun yy _=>yy=.int .i64 (k:Int),
    fun yy _=>yy=.pointer (some (ad.add (k*2))),
    fun yy _=>yy=.pointer (some ⟨(ad.add (k*2)).block,(ad.add (k*2)).off+1,none⟩),
    fun yy _=>yy=.slice z.r.at_ z.r.l.length z.r.cap,
    fun yy W=>∃s2:Sl UInt8,yy=.slice s2.at_ s2.l.length s2.cap∧s2.l=z.r.l∧RowF W L 1 bD s2,
    fun yy W=>∃s2 s3:Sl UInt8,yy=.agg #[.slice s2.at_ s2.l.length s2.cap,.slice s3.at_ s3.l.length s3.cap]∧s2.l=z.p.l∧s3.l=z.r.l∧RowF W L 1 bD s2∧RowF W L 1 bD s3,
    fun yy W=>∃(q:Nat) (s2 s3:Sl UInt8),yy=.slice (some ⟨q,0,none⟩) 1 1∧L≤q∧W.heap[q]?=some (.cells #[.slice s2.at_ s2.l.length s2.cap,.slice s3.at_ s3.l.length s3.cap] 87 (0,0))∧s2.l=z.p.l∧s3.l=z.r.l∧RowF W L 1 bD s2∧RowF W L 1 bD s3,
    fun yy W=>∃(z2:SgL) (W1:World),TS W1 mg m sv fv zs ys∧Grows W1 W sv yy∧W.ownsRow (mg+1) 87 2 yy (zs.length+1) (zs.flatMap SgL.cs++SgL.cs z2)∧(Part W1 mg 1 bD sv fv z2.p∧Part W1 mg 1 bD sv fv z2.r)∧z2.g=z.g,
    fun yy _=>yy=.pointer (some ⟨mg,0,none⟩),
    fun yy _=>yy=.pointer (some ⟨mg,0,none⟩),
    fun _ W=>∃(v9:Value) (z2:SgL),TS W mg m v9 fv (zs++[z2]) ys∧z2.g=z.g]) (by kernel_rfl) (by kernel_rfl) (by kernel_rfl) (by decide) rfl (by decide) (by kernel_rfl) (by intro i v w hd hF;rcases i with _|_|_|_|_|_|_|_|_|_|_|_|_|_|_|_|_|_|_|_|_|_|_|_|_|i<;>first|exact hF|exact absurd hd (by simp)) ?_ ?_
   ·refine⟨?_,?_,?_,?_,?_,?_,?_,?_,?_,?_,?_,?_,?_,?_,?_,?_,?_,?_,?_,?_,?_,?_,?_,?_,?_,trivial⟩
    ·refine ObD.plain (by decide) rfl fun ρ W hk=>?_
     exact OpOut.move (.tmp 3) rfl ⟨Below.refl _ _,hk.old 3 (by decide)⟩
    ·refine ObD.plain (by decide) rfl fun ρ W hk=>?_
     exact OpOut.move (.tmp 3) rfl ⟨Below.refl _ _,hk.old 3 (by decide)⟩
    ·refine ObD.plain (by decide) rfl fun ρ W hk=>?_
     have h1:=(hk.fact 1 32 (by decide) rfl).pure
     exact OpOut.nilCheck (x:=.tmp 32) rfl h1 ⟨Below.refl _ _,rfl⟩
    ·refine ObD.plain (by decide) rfl fun ρ W hk=>?_
     have h2:=(hk.fact 2 33 (by decide) rfl).pure
     exact OpOut.fieldAddr (x:=.tmp 33) rfl h2 (by go_simp) ⟨Below.refl _ _,rfl⟩
    ·refine ObD.first rfl rfl fun ρ W hk hk0=>?_
     have h3:=(hk.fact 3 34 (by decide) rfl).pure
     have hT:=ht.out.below hk0.below
     have y0:=cell_blk hT.blk 0
     simp at y0
     obtain⟨A9,c9,hv9,_,_⟩:=own_form hT.os
     have HT9:=hide hT
     clear hT
     rw[hv9]at y0
     exact OpOut.load (x:=.tmp 34) rfl h3 (by go_simp) ⟨Only.refl _ _,hv9.symm,HT9.out⟩
    ·refine ObD.plain (by decide) rfl fun ρ W hk=>?_
     have o1:ρ (.tmp 1)=.pointer (some ⟨xg,0,none⟩):=hk.old 1 (by decide)
     exact OpOut.fieldAddr (x:=.tmp 1) rfl o1 (by go_simp) ⟨Below.refl _ _,rfl⟩
    ·refine ObD.plain (by decide) rfl fun ρ W hk=>?_
     have hp:=(hk.fact 5 36 (by decide) rfl).pure
     obtain⟨e0,e1,e2,e3,e4,eL⟩:=HX.out W hk.below
     rw[HAD.out]at e0
     exact OpOut.load (x:=.tmp 36) rfl hp (by go_simp) ⟨Below.refl _ _,rfl⟩
    ·refine ObD.plain (by decide) rfl fun ρ W hk=>?_
     exact OpOut.move (.tmp 4) rfl ⟨Below.refl _ _,hk.old 4 (by decide)⟩
    ·refine ObD.plain (by decide) rfl fun ρ W hk=>?_
     have hp:=(hk.fact 6 37 (by decide) rfl).pure
     have hq:=(hk.fact 7 38 (by decide) rfl).pure
     have hki:(k:Int)<(m.sigs.l.length:Int):=by omega
     exact OpOut.indexAddrT (x:=.tmp 37) (y:=.tmp 38) rfl hp hq (by go_simp) ⟨Below.refl _ _,rfl⟩
    ·refine ObD.plain (by decide) rfl fun ρ W hk=>?_
     have hp:=(hk.fact 8 39 (by decide) rfl).pure
     exact OpOut.fieldAddr (x:=.tmp 39) rfl hp (by go_simp) ⟨Below.refl _ _,rfl⟩
    ·refine ObD.plain (by decide) rfl fun ρ W hk=>?_
     have hp:=(hk.fact 9 40 (by decide) rfl).pure
     obtain⟨e0,e1,e2,e3,e4,eL⟩:=HX.out W hk.below
     exact OpOut.load (x:=.tmp 40) rfl hp (by go_simp) ⟨Below.refl _ _,rfl⟩
    ·refine ObD.plain (by decide) rfl fun ρ W hk=>?_
     have hp:=(hk.fact 10 41 (by decide) rfl).pure
     obtain⟨e0,e1,e2,e3,e4,eL⟩:=HX.out W hk.below
     refine OpOut.fn (args:=#[.slice z.p.at_ z.p.l.length z.p.cap]) rfl (hk.func _) (by simp[hp]) Tryz.func24 (by kernel_rfl) rfl ?_
     refine(ltypes_any z.p W (hide e3) (by omega)).mono ?_;rintro ee w5 ⟨s2,rfl,s5,s6,hb5⟩
     exact⟨_,rfl,hb5.out,s2,rfl,s5.out,s6.out.base eL⟩
    ·refine ObD.plain (by decide) rfl fun ρ W hk=>?_
     have o1:ρ (.tmp 1)=.pointer (some ⟨xg,0,none⟩):=hk.old 1 (by decide)
     exact OpOut.fieldAddr (x:=.tmp 1) rfl o1 (by go_simp) ⟨Below.refl _ _,rfl⟩
    ·refine ObD.plain (by decide) rfl fun ρ W hk=>?_
     have hp:=(hk.fact 12 43 (by decide) rfl).pure
     obtain⟨e0,e1,e2,e3,e4,eL⟩:=HX.out W hk.below
     rw[HAD.out]at e0
     exact OpOut.load (x:=.tmp 43) rfl hp (by go_simp) ⟨Below.refl _ _,rfl⟩
    ·refine ObD.plain (by decide) rfl fun ρ W hk=>?_
     exact OpOut.move (.tmp 4) rfl ⟨Below.refl _ _,hk.old 4 (by decide)⟩
    ·refine ObD.plain (by decide) rfl fun ρ W hk=>?_
     have hp:=(hk.fact 13 44 (by decide) rfl).pure
     have hq:=(hk.fact 14 45 (by decide) rfl).pure
     have hki:(k:Int)<(m.sigs.l.length:Int):=by omega
     exact OpOut.indexAddrT (x:=.tmp 44) (y:=.tmp 45) rfl hp hq (by go_simp) ⟨Below.refl _ _,rfl⟩
    ·refine ObD.plain (by decide) rfl fun ρ W hk=>?_
     have hp:=(hk.fact 15 46 (by decide) rfl).pure
     exact OpOut.fieldAddr (x:=.tmp 46) rfl hp (by go_simp) ⟨Below.refl _ _,rfl⟩
    ·refine ObD.plain (by decide) rfl fun ρ W hk=>?_
     have hp:=(hk.fact 16 47 (by decide) rfl).pure
     obtain⟨e0,e1,e2,e3,e4,eL⟩:=HX.out W hk.below
     exact OpOut.load (x:=.tmp 47) rfl hp (by go_simp) ⟨Below.refl _ _,rfl⟩
    ·refine ObD.plain (by decide) rfl fun ρ W hk=>?_
     have hp:=(hk.fact 17 48 (by decide) rfl).pure
     obtain⟨e0,e1,e2,e3,e4,eL⟩:=HX.out W hk.below
     refine OpOut.fn (args:=#[.slice z.r.at_ z.r.l.length z.r.cap]) rfl (hk.func _) (by simp[hp]) Tryz.func24 (by kernel_rfl) rfl ?_
     refine(ltypes_any z.r W (hide e4) (by omega)).mono ?_;rintro ee w5 ⟨s2,rfl,s5,s6,hb5⟩
     exact⟨_,rfl,hb5.out,s2,rfl,s5.out,s6.out.base eL⟩
    ·refine ObD.plain (by decide) rfl fun ρ W hk=>?_
     obtain⟨w2,hw2,s2,h2,e2,r2⟩:=hk.fact 11 42 (by decide) rfl
     obtain⟨w5,hw5,s3,h5,e5,r5⟩:=hk.fact 18 49 (by decide) rfl
     exact OpOut.build (us:=#[(0,.slice s2.at_ s2.l.length s2.cap),(1,.slice s3.at_ s3.l.length s3.cap)]) rfl (by simp[h2,h5]) (by go_simp) ⟨Below.refl _ _,s2,s3,rfl,e2,e5,r2.only_lt hw2 (fun x hx=>(HSM.out x hx).2),r5.only_lt hw5 (fun x hx=>(HSM.out x hx).2)⟩
    ·refine ObD.plain (by decide) rfl fun ρ W hk=>?_
     obtain⟨w2,hw2,s2,s3,h2,e2,e3,r2,r3⟩:=hk.fact 19 50 (by decide) rfl
     have eL:=(HX.out W hk.below).2.2.2.2.2
     have hbA:Below W.heap.size W (W.alloc (.cells #[.slice s2.at_ s2.l.length s2.cap,.slice s3.at_ s3.l.length s3.cap] 87)):=(Below.refl _ _).alloc (Nat.le_refl _) _
     exact OpOut.buildSlice (us:=#[(0,.agg #[.slice s2.at_ s2.l.length s2.cap,.slice s3.at_ s3.l.length s3.cap])]) rfl (by simp[h2]) (by go_simp) ⟨hbA,W.heap.size,s2,s3,rfl,eL,heap_alloc_new W _,e2,e3,(r2.only_lt hw2 (fun x hx=>(HSM.out x hx).2)).below hbA,(r3.only_lt hw2 (fun x hx=>(HSM.out x hx).2)).below hbA⟩
    ·refine ObD.next 0 4 35 rfl rfl rfl rfl fun ρ W hk hw=>?_
     obtain⟨w6,hw6,e6,hT6⟩:=hw
     obtain⟨w7,hw7,q,s2,s3,h7,hq7,hb7,e2,e3,r2,r3⟩:=hk.fact 20 51 (by decide) rfl
     have hT:=hT6.below hw6
     have hqW:=(hw7.block q (blk_lt hb7) (fun hm=>by have:=(HSM.out q hm).2;omega)).trans hb7
     have hrd:Reads W W.heap.size 2 (some ⟨q,0,none⟩) 1 (SgL.cs (⟨s2,s3⟩:SgL)):=⟨rfl,fun _=>⟨_,rfl,blk_lt hqW,fun j u hu=>by
      have ha9:(⟨q,0,none⟩:Addr).add j=⟨q,j,none⟩:=by unfold Addr.add;split<;>simp_all
      rw[ha9,cell_blk hqW j]
      simpa [SgL.cs,Sl.val]using hu⟩⟩
     have hbase:mg+1≤W.heap.size:=by have:=blk_lt hT.blk;omega
     obtain⟨v9,w9,hrun,ho9,hg9⟩:=run_append_any (P:=Tryz.prog) (w:=W) (mg+1) (ty:=79) sig_elem sv zs.length (zs.flatMap SgL.cs) hT.os W.heap.size (some ⟨q,0,none⟩) 1 1 (SgL.cs (⟨s2,s3⟩:SgL)) hrd (by simp[SgL.cs,Sl.val,Value.oneCell']) hroom hbase
     exact OpOut.append rfl e6 h7 hrun ⟨hg9.only.more (fun x hx=>List.mem_cons_of_mem _ hx),(⟨s2,s3⟩:SgL),W,hT,hg9,ho9,⟨Part.new (r2.only_lt hw7 (fun x hx=>(HSM.out x hx).2)) hmL HSV.out HFV.out,Part.new (r3.only_lt hw7 (fun x hx=>(HSM.out x hx).2)) hmL HSV.out HFV.out⟩,by show MSg.mk s2.l s3.l=MSg.mk z.p.l z.r.l;rw[e2,e3]⟩
    ·refine ObD.plain (by decide) rfl fun ρ W hk=>?_
     have h0:=(hk.fact 0 31 (by decide) rfl).pure
     exact OpOut.nilCheck (x:=.tmp 31) rfl h0 ⟨Below.refl _ _,rfl⟩
    ·refine ObD.plain (by decide) rfl fun ρ W hk=>?_
     have h2:=(hk.fact 22 53 (by decide) rfl).pure
     exact OpOut.fieldAddr (x:=.tmp 53) rfl h2 (by go_simp) ⟨Below.refl _ _,rfl⟩
    ·refine ObD.next 1 21 52 rfl rfl rfl rfl fun ρ W hk hw=>?_
     obtain⟨w6,hw6,z2,W1,hT1,hg1,ho1,hp1,eg⟩:=hw
     have hp:=(hk.fact 23 54 (by decide) rfl).pure
     obtain⟨yy,hyy⟩:∃yy,ρ (.tmp 52)=yy:=⟨_,rfl⟩
     rw[hyy]at hg1 ho1
     have hg2:=hg1.trans (Grows.of_below hw6)
     have ho2:=own_only3 (S:=[]) ho1 (Only.of_below hw6) (by simp)
     have hT2:=hT1.pushS hg2 ho2 hp1.1 hp1.2
     have hblk:=(hg2.only.block mg (blk_lt hT1.blk) (fun hm=>by have:=own_ge hT1.os mg (by simpa using hm);omega)).trans hT1.blk
     have y0:=cell_blk hblk 0
     have f0:=frozen_blk hblk 0
     simp at y0
     obtain⟨A9,c9,hv9,_,_⟩:=own_form ho2
     subst hv9
     obtain⟨A8,c8,hv8,_,_⟩:=own_form hT1.os
     rw[hv8]at y0
     exact OpOut.storeT (x:=.tmp 54) (y:=.tmp 52) (W':=W.setCell ⟨mg,0,none⟩ (.slice A9 (zs.length+1) c9)) rfl hp hyy (by clear hT1 hT2 hblk hg1 hg2 ho1 ho2 hv8;go_simp) ⟨Only.setCell W (p:=⟨mg,0,none⟩) (by simp) _,_,z2,hT2,eg⟩
   ·intro vs W2 hb2 hf hl9
    obtain⟨w6,hw6,v9,z2,hT6,eg⟩:=hl9
    have HT6:=hide (hT6.below hw6)
    have hbN:Hid (Below mg W W2):=hbw.out.trans (hb2.below (by have:=HLL.out;omega) (fun x hx=>(HSM.out x hx).1))
    have HEG:=hide eg
    clear hf hw6 hT6 hb2 eg HX c0 c2 q0 q1
    simp only[fillL]
    generalize vs 0=y0,vs 1=y1,vs 2=y2,vs 3=y3,vs 4=y4,vs 5=y5,vs 6=y6,vs 7=y7,vs 8=y8,vs 9=y9,vs 10=y10,vs 11=y11,vs 12=y12,vs 13=y13,vs 14=y14,vs 15=y15,vs 16=y16,vs 17=y17,vs 18=y18,vs 19=y19,vs 20=y20,vs 21=y21,vs 22=y22,vs 23=y23,vs 24=y24
    go_frame
    go_wp2_with fail
    go_roundw
    case rel=>exact⟨k+1,zs++[z2],v9,by go_num,by omega,by simp[HZL.out],by rw[HFV0.out,HYS0.out]at HT6;exact HT6,by show _=_;rw[List.map_append,hz.out,drop_take HZK.out,List.map_singleton,HEG.out],hbN⟩
    case measure=>simp[intOf]<;>omega
  ·have hkn:k=m.sigs.l.length:=by omega
   have hz2:=hz.out
   rw[hkn,List.take_length]at hz2
   have HZ2:=hide hz2
   have HSVZ:=ht
   clear hlt hz2 hz
   have hlt3:(m.sigs.l.length:Int)≤(k:Int):=by omega
   go_wp2_with fail
   go_loopw [5] (fun i w1=>∃(k:Nat) (ys:List FuL) (fv:Value),i=.int .i64 k∧k≤m.funcs.l.length∧ys.length=k∧Hid (TS w1 mg m sv fv zs ys)∧Hid (ys.map FuL.g=(m.funcs.l.take k).map FuL.g)∧Hid (Below mg W w1)) (fun i _=>m.funcs.l.length-(intOf i).toNat)
   case atStart=>exact⟨0,[],_,rfl,by omega,rfl,HSVZ,rfl,hbw⟩
   clear hkn hlt3 HSVZ ht hk c0 c2 HIN HWV HZL hbw
   case round =>
   obtain⟨k,ys,fv,rfl,hk,hzl,ht,hz,hbw⟩:=hrel
   have HZL:=hide hzl
   clear hzl
   obtain⟨c0,c2,hin,hwV⟩:=HCL.out _ hbw.out
   have HIN:=hide hin;have HWV:=hide hwV
   clear hin hwV
   by_cases hlt:k<m.funcs.l.length
   ·skip
    obtain⟨z,hzk⟩:∃z,m.funcs.l[k]?=some z:=⟨_,List.getElem?_eq_getElem hlt⟩
    have hzm:=List.mem_of_getElem? hzk
    obtain⟨ad,ha,hal,k0,kj⟩:=HIN.out.funcs.at_ (fun _=>rfl) hzk
    have q0:wr.cell? (ad.add (k*3))=some (.int .i64 z.sig):=k0 _ rfl (by omega)
    have q1:wr.cell? ⟨(ad.add (k*3)).block,(ad.add (k*3)).off+1,none⟩=some (.slice z.bd.loc.at_ z.bd.loc.l.length z.bd.loc.cap):=kj 1 (by omega) (by omega) _ rfl
    have q2:wr.cell? ⟨(ad.add (k*3)).block,(ad.add (k*3)).off+2,none⟩=some (.slice z.bd.l.at_ z.bd.l.l.length z.bd.l.cap):=kj 2 (by omega) (by omega) _ rfl
    obtain⟨L,hL⟩:∃L,wr.heap.size=L:=⟨_,rfl⟩
    have hmL:mg<L:=by rw[←hL];exact blk_lt ht.out.blk
    have hsv:∀q,sv.ownBlock=some q→q<L:=fun q hq=>by rw[←hL];exact own_lt ht.out.os q hq
    have hfv:∀q,fv.ownBlock=some q→q<L:=fun q hq=>by rw[←hL];exact own_lt ht.out.of q hq
    have hSm:∀x∈mg::fv.ownBlock.toList,mg≤x∧x<L:=fun x hx=>by
     rcases List.mem_cons.1 hx with e|e
     ·subst e;exact⟨Nat.le_refl _,hmL⟩
     ·have e2:=Option.mem_toList.1 e;have:=own_ge ht.out.of x e2;exact⟨by omega,hfv x e2⟩
    have HX:Hid (∀V,Only (mg::fv.ownBlock.toList) wr V→V.cell? ⟨xg,2,none⟩=some (.slice m.funcs.at_ m.funcs.l.length m.funcs.cap)∧V.cell? (ad.add (k*3))=some (.int .i64 z.sig)∧V.cell? ⟨(ad.add (k*3)).block,(ad.add (k*3)).off+1,none⟩=some (.slice z.bd.loc.at_ z.bd.loc.l.length z.bd.loc.cap)∧V.cell? ⟨(ad.add (k*3)).block,(ad.add (k*3)).off+2,none⟩=some (.slice z.bd.l.at_ z.bd.l.l.length z.bd.l.cap)∧BdIn V z.bd∧L≤V.heap.size):=fun V hV=>by
     have hbV:Below mg wr V:=hV.below (by omega) (fun x hx=>(hSm x hx).1)
     have hb9:=hbw.out.trans hbV
     obtain⟨e0,e2,e3,_⟩:=HCL.out V hb9
     have hk9:=e3.funcs.at_ (fun _=>rfl) hzk
     obtain⟨ad9,ha9,_,k09,kj9⟩:=hk9
     have e9:ad9=ad:=by rw[ha]at ha9;injection ha9 with e;exact e.symm
     subst e9
     exact⟨e2,k09 _ rfl (by omega),kj9 1 (by omega) (by omega) _ rfl,kj9 2 (by omega) (by omega) _ rfl,(e3.func z hzm).2,by rw[←hL];exact hV.size⟩
    have hzp:=hide (hs.out.func z hzm)
    have HZK:=hide hzk;have HLL:=hide hL;have HSM:=hide hSm;have HSV:=hide hsv;have HFV:=hide hfv;have HAD:=hide ha
    have hroom:Room ys.length 1 56:=room_of (by have:=HZL.out;omega) (by omega)
    have HMGx:=HMG.out
    rw[show m.funcs.at_=some ad from ha]at c2
    clear hzk hzm ha k0 kj hL hSm hsv hfv hal
    go_upto_region 9 with fail
    refine wp_region_factsD grew_ext (Only.ext (mg::fv.ownBlock.toList)) (fun _ _ h=>Only.of_below h) [4,20,23] 23 (factsOf [fun yy _=>yy=.pointer (some ⟨mg,0,none⟩),
    fun yy _=>yy=.pointer (some ⟨mg,0,none⟩),
    fun yy _=>yy=.pointer (some ⟨mg,0,none⟩),
    fun yy _=>yy=.pointer (some ⟨mg,2,none⟩),
    fun yy W=>yy=fv∧TS W mg m sv fv zs ys,
    fun yy _=>yy=.pointer (some ⟨xg,2,none⟩),
    fun yy _=>yy=.slice (some ad) m.funcs.l.length m.funcs.cap,
    fun yy _=>yy=.int .i64 (k:Int),
    fun yy _=>yy=.pointer (some (ad.add (k*3))),
    fun yy _=>yy=.pointer (some (ad.add (k*3))),
    fun yy _=>yy=.int .i64 z.sig,
    fun yy _=>yy=.pointer (some ⟨xg,2,none⟩),
    fun yy _=>yy=.slice (some ad) m.funcs.l.length m.funcs.cap,
    fun yy _=>yy=.int .i64 (k:Int),
    fun yy _=>yy=.pointer (some (ad.add (k*3))),
    fun yy _=>yy=.pointer (some ⟨(ad.add (k*3)).block,(ad.add (k*3)).off+1,none⟩),
    fun yy _=>yy=.agg #[.slice z.bd.loc.at_ z.bd.loc.l.length z.bd.loc.cap,.slice z.bd.l.at_ z.bd.l.l.length z.bd.l.cap],
    fun yy W=>∃y2:BdL,yy=.agg #[.slice y2.loc.at_ y2.loc.l.length y2.loc.cap,.slice y2.l.at_ y2.l.l.length y2.l.cap]∧y2.g=z.bd.g∧BdF W L y2,
    fun yy W=>∃y2:BdL,yy=.agg #[.int .i64 z.sig,.slice y2.loc.at_ y2.loc.l.length y2.loc.cap,.slice y2.l.at_ y2.l.l.length y2.l.cap]∧y2.g=z.bd.g∧BdF W L y2,
    fun yy W=>∃(q:Nat) (y2:BdL),yy=.slice (some ⟨q,0,none⟩) 1 1∧L≤q∧W.heap[q]?=some (.cells #[.int .i64 z.sig,.slice y2.loc.at_ y2.loc.l.length y2.loc.cap,.slice y2.l.at_ y2.l.l.length y2.l.cap] 78 (0,0))∧y2.g=z.bd.g∧BdF W L y2,
    fun yy W=>∃(z2:FuL) (W1:World),TS W1 mg m sv fv zs ys∧Grows W1 W fv yy∧W.ownsRow (mg+1) 78 3 yy (ys.length+1) (ys.flatMap FuL.cs++FuL.cs z2)∧(Part W1 mg 1 bD sv fv z2.bd.loc∧Part W1 mg 5 XL.cs sv fv z2.bd.l∧∀x∈z2.bd.l.l,Part W1 mg 1 uD sv fv x.l)∧z2.g=z.g,
    fun yy _=>yy=.pointer (some ⟨mg,0,none⟩),
    fun yy _=>yy=.pointer (some ⟨mg,2,none⟩),
    fun _ W=>∃(v9:Value) (z2:FuL),TS W mg m sv v9 zs (ys++[z2])∧z2.g=z.g]) (by kernel_rfl) (by kernel_rfl) (by kernel_rfl) (by decide) rfl (by decide) (by kernel_rfl) (by intro i v w hd hF;rcases i with _|_|_|_|_|_|_|_|_|_|_|_|_|_|_|_|_|_|_|_|_|_|_|_|i<;>first|exact hF|exact absurd hd (by simp)) ?_ ?_
    ·refine⟨?_,?_,?_,?_,?_,?_,?_,?_,?_,?_,?_,?_,?_,?_,?_,?_,?_,?_,?_,?_,?_,?_,?_,?_,trivial⟩
     ·refine ObD.plain (by decide) rfl fun ρ W hk=>?_
      exact OpOut.move (.tmp 3) rfl ⟨Below.refl _ _,hk.old 3 (by decide)⟩
     ·refine ObD.plain (by decide) rfl fun ρ W hk=>?_
      exact OpOut.move (.tmp 3) rfl ⟨Below.refl _ _,hk.old 3 (by decide)⟩
     ·refine ObD.plain (by decide) rfl fun ρ W hk=>?_
      have h1:=(hk.fact 1 63 (by decide) rfl).pure
      exact OpOut.nilCheck (x:=.tmp 63) rfl h1 ⟨Below.refl _ _,rfl⟩
     ·refine ObD.plain (by decide) rfl fun ρ W hk=>?_
      have h2:=(hk.fact 2 64 (by decide) rfl).pure
      exact OpOut.fieldAddr (x:=.tmp 64) rfl h2 (by go_simp) ⟨Below.refl _ _,rfl⟩
     ·refine ObD.first rfl rfl fun ρ W hk hk0=>?_
      have h3:=(hk.fact 3 65 (by decide) rfl).pure
      have hT:=ht.out.below hk0.below
      have y0:=cell_blk hT.blk 2
      simp at y0
      obtain⟨A9,c9,hv9,_,_⟩:=own_form hT.of
      have HT9:=hide hT
      clear hT
      rw[hv9]at y0
      exact OpOut.load (x:=.tmp 65) rfl h3 (by go_simp) ⟨Only.refl _ _,hv9.symm,HT9.out⟩
     ·refine ObD.plain (by decide) rfl fun ρ W hk=>?_
      have o1:ρ (.tmp 1)=.pointer (some ⟨xg,0,none⟩):=hk.old 1 (by decide)
      exact OpOut.fieldAddr (x:=.tmp 1) rfl o1 (by go_simp) ⟨Below.refl _ _,rfl⟩
     ·refine ObD.plain (by decide) rfl fun ρ W hk=>?_
      have hp:=(hk.fact 5 67 (by decide) rfl).pure
      obtain⟨e0,e1,e2,e3,e4,eL⟩:=HX.out W hk.below
      rw[HAD.out]at e0
      exact OpOut.load (x:=.tmp 67) rfl hp (by go_simp) ⟨Below.refl _ _,rfl⟩
     ·refine ObD.plain (by decide) rfl fun ρ W hk=>?_
      exact OpOut.move (.tmp 5) rfl ⟨Below.refl _ _,hk.old 5 (by decide)⟩
     ·refine ObD.plain (by decide) rfl fun ρ W hk=>?_
      have hp:=(hk.fact 6 68 (by decide) rfl).pure
      have hq:=(hk.fact 7 69 (by decide) rfl).pure
      have hki:(k:Int)<(m.funcs.l.length:Int):=by omega
      exact OpOut.indexAddrT (x:=.tmp 68) (y:=.tmp 69) rfl hp hq (by go_simp) ⟨Below.refl _ _,rfl⟩
     ·refine ObD.plain (by decide) rfl fun ρ W hk=>?_
      have hp:=(hk.fact 8 70 (by decide) rfl).pure
      exact OpOut.fieldAddr (x:=.tmp 70) rfl hp (by go_simp) ⟨Below.refl _ _,rfl⟩
     ·refine ObD.plain (by decide) rfl fun ρ W hk=>?_
      have hp:=(hk.fact 9 71 (by decide) rfl).pure
      obtain⟨e0,e1,e2,e3,e4,eL⟩:=HX.out W hk.below
      exact OpOut.load (x:=.tmp 71) rfl hp (by go_simp) ⟨Below.refl _ _,rfl⟩
     ·refine ObD.plain (by decide) rfl fun ρ W hk=>?_
      have o1:ρ (.tmp 1)=.pointer (some ⟨xg,0,none⟩):=hk.old 1 (by decide)
      exact OpOut.fieldAddr (x:=.tmp 1) rfl o1 (by go_simp) ⟨Below.refl _ _,rfl⟩
     ·refine ObD.plain (by decide) rfl fun ρ W hk=>?_
      have hp:=(hk.fact 11 73 (by decide) rfl).pure
      obtain⟨e0,e1,e2,e3,e4,eL⟩:=HX.out W hk.below
      rw[HAD.out]at e0
      exact OpOut.load (x:=.tmp 73) rfl hp (by go_simp) ⟨Below.refl _ _,rfl⟩
     ·refine ObD.plain (by decide) rfl fun ρ W hk=>?_
      exact OpOut.move (.tmp 5) rfl ⟨Below.refl _ _,hk.old 5 (by decide)⟩
     ·refine ObD.plain (by decide) rfl fun ρ W hk=>?_
      have hp:=(hk.fact 12 74 (by decide) rfl).pure
      have hq:=(hk.fact 13 75 (by decide) rfl).pure
      have hki:(k:Int)<(m.funcs.l.length:Int):=by omega
      exact OpOut.indexAddrT (x:=.tmp 74) (y:=.tmp 75) rfl hp hq (by go_simp) ⟨Below.refl _ _,rfl⟩
     ·refine ObD.plain (by decide) rfl fun ρ W hk=>?_
      have hp:=(hk.fact 14 76 (by decide) rfl).pure
      exact OpOut.fieldAddr (x:=.tmp 76) rfl hp (by go_simp) ⟨Below.refl _ _,rfl⟩
     ·refine ObD.plain (by decide) rfl fun ρ W hk=>?_
      have hp:=(hk.fact 15 77 (by decide) rfl).pure
      obtain⟨e0,e1,e2,e3,e4,eL⟩:=HX.out W hk.below
      exact OpOut.load (x:=.tmp 77) rfl hp (by go_simp) ⟨Below.refl _ _,rfl⟩
     ·refine ObD.plain (by decide) rfl fun ρ W hk=>?_
      have hp:=(hk.fact 16 78 (by decide) rfl).pure
      obtain⟨e0,e1,e2,e3,e4,eL⟩:=HX.out W hk.below
      refine OpOut.fn (args:=#[.agg #[.slice z.bd.loc.at_ z.bd.loc.l.length z.bd.loc.cap,.slice z.bd.l.at_ z.bd.l.l.length z.bd.l.cap]]) rfl (hk.func _) (by simp[hp]) Tryz.func25 (by kernel_rfl) rfl ?_
      refine(lbody_any z.bd W (hide e4) hzp).mono ?_;rintro ee w5 ⟨y2,rfl,s5,s6,hb5⟩
      exact⟨_,rfl,hb5.out,y2,rfl,s5.out,s6.out.base eL⟩
     ·refine ObD.plain (by decide) rfl fun ρ W hk=>?_
      have h10:=(hk.fact 10 72 (by decide) rfl).pure
      obtain⟨w2,hw2,y2,h2,e2,r2⟩:=hk.fact 17 79 (by decide) rfl
      exact OpOut.build (us:=#[(0,.int .i64 z.sig),(1,.agg #[.slice y2.loc.at_ y2.loc.l.length y2.loc.cap,.slice y2.l.at_ y2.l.l.length y2.l.cap])]) rfl (by simp[h10,h2]) (by go_simp) ⟨Below.refl _ _,y2,rfl,e2,r2.only_lt hw2 (fun x hx=>(HSM.out x hx).2)⟩
     ·refine ObD.plain (by decide) rfl fun ρ W hk=>?_
      obtain⟨w2,hw2,y2,h2,e2,r2⟩:=hk.fact 18 80 (by decide) rfl
      have eL:=(HX.out W hk.below).2.2.2.2.2
      have hbA:Below W.heap.size W (W.alloc (.cells #[.int .i64 z.sig,.slice y2.loc.at_ y2.loc.l.length y2.loc.cap,.slice y2.l.at_ y2.l.l.length y2.l.cap] 78)):=(Below.refl _ _).alloc (Nat.le_refl _) _
      exact OpOut.buildSlice (us:=#[(0,.agg #[.int .i64 z.sig,.slice y2.loc.at_ y2.loc.l.length y2.loc.cap,.slice y2.l.at_ y2.l.l.length y2.l.cap])]) rfl (by simp[h2]) (by go_simp) ⟨hbA,W.heap.size,y2,rfl,eL,heap_alloc_new W _,e2,(r2.only_lt hw2 (fun x hx=>(HSM.out x hx).2)).below hbA⟩
     ·refine ObD.next 0 4 66 rfl rfl rfl rfl fun ρ W hk hw=>?_
      obtain⟨w6,hw6,e6,hT6⟩:=hw
      obtain⟨w7,hw7,q,y2,h7,hq7,hb7,e2,r2⟩:=hk.fact 19 81 (by decide) rfl
      have hT:=hT6.below hw6
      have hqW:=(hw7.block q (blk_lt hb7) (fun hm=>by have:=(HSM.out q hm).2;omega)).trans hb7
      have hrd:Reads W W.heap.size 3 (some ⟨q,0,none⟩) 1 (FuL.cs (⟨z.sig,y2⟩:FuL)):=⟨rfl,fun _=>⟨_,rfl,blk_lt hqW,fun j u hu=>by
       have ha9:(⟨q,0,none⟩:Addr).add j=⟨q,j,none⟩:=by unfold Addr.add;split<;>simp_all
       rw[ha9,cell_blk hqW j]
       simpa [FuL.cs,Sl.val]using hu⟩⟩
      have hbase:mg+1≤W.heap.size:=by have:=blk_lt hT.blk;omega
      obtain⟨v9,w9,hrun,ho9,hg9⟩:=run_append_any (P:=Tryz.prog) (w:=W) (mg+1) (ty:=80) func_elem fv ys.length (ys.flatMap FuL.cs) hT.of W.heap.size (some ⟨q,0,none⟩) 1 1 (FuL.cs (⟨z.sig,y2⟩:FuL)) hrd (by simp[FuL.cs,Sl.val,Value.oneCell']) hroom hbase
      exact OpOut.append rfl e6 h7 hrun ⟨hg9.only.more (fun x hx=>List.mem_cons_of_mem _ hx),(⟨z.sig,y2⟩:FuL),W,hT,hg9,ho9,⟨Part.new (r2.loc.only_lt hw7 (fun x hx=>(HSM.out x hx).2)) hmL HSV.out HFV.out,Part.new (r2.ls.l.only_lt hw7 (fun x hx=>(HSM.out x hx).2)) hmL HSV.out HFV.out,fun x hx=>Part.new ((r2.ls.lab x hx).only_lt hw7 (fun x hx=>(HSM.out x hx).2)) hmL HSV.out HFV.out⟩,by show MFu.mk z.sig y2.g=MFu.mk z.sig z.bd.g;rw[e2]⟩
     ·refine ObD.plain (by decide) rfl fun ρ W hk=>?_
      have h0:=(hk.fact 0 62 (by decide) rfl).pure
      exact OpOut.nilCheck (x:=.tmp 62) rfl h0 ⟨Below.refl _ _,rfl⟩
     ·refine ObD.plain (by decide) rfl fun ρ W hk=>?_
      have h2:=(hk.fact 21 83 (by decide) rfl).pure
      exact OpOut.fieldAddr (x:=.tmp 83) rfl h2 (by go_simp) ⟨Below.refl _ _,rfl⟩
     ·refine ObD.next 1 20 82 rfl rfl rfl rfl fun ρ W hk hw=>?_
      obtain⟨w6,hw6,z2,W1,hT1,hg1,ho1,hp1,eg⟩:=hw
      have hp:=(hk.fact 22 84 (by decide) rfl).pure
      obtain⟨yy,hyy⟩:∃yy,ρ (.tmp 82)=yy:=⟨_,rfl⟩
      rw[hyy]at hg1 ho1
      have hg2:=hg1.trans (Grows.of_below hw6)
      have ho2:=own_only3 (S:=[]) ho1 (Only.of_below hw6) (by simp)
      have hT2:=hT1.pushF hg2 ho2 hp1.1 hp1.2.1 hp1.2.2
      have hblk:=(hg2.only.block mg (blk_lt hT1.blk) (fun hm=>by have:=own_ge hT1.of mg (by simpa using hm);omega)).trans hT1.blk
      have y0:=cell_blk hblk 2
      have f0:=frozen_blk hblk 2
      simp at y0
      obtain⟨A9,c9,hv9,_,_⟩:=own_form ho2
      subst hv9
      obtain⟨A8,c8,hv8,_,_⟩:=own_form hT1.of
      rw[hv8]at y0
      exact OpOut.storeT (x:=.tmp 84) (y:=.tmp 82) (W':=W.setCell ⟨mg,2,none⟩ (.slice A9 (ys.length+1) c9)) rfl hp hyy (by clear hT1 hT2 hblk hg1 hg2 ho1 ho2 hv8;go_simp) ⟨Only.setCell W (p:=⟨mg,2,none⟩) (by simp) _,_,z2,hT2,eg⟩
    ·intro vs W2 hb2 hf hl9
     obtain⟨w6,hw6,v9,z2,hT6,eg⟩:=hl9
     have HT6:=hide (hT6.below hw6)
     have hbN:Hid (Below mg W W2):=hbw.out.trans (hb2.below (by have:=HLL.out;omega) (fun x hx=>(HSM.out x hx).1))
     have HEG:=hide eg
     clear hf hw6 hT6 hb2 eg HX c0 c2 q0 q1 q2
     simp only[fillL]
     generalize vs 0=y0,vs 1=y1,vs 2=y2,vs 3=y3,vs 4=y4,vs 5=y5,vs 6=y6,vs 7=y7,vs 8=y8,vs 9=y9,vs 10=y10,vs 11=y11,vs 12=y12,vs 13=y13,vs 14=y14,vs 15=y15,vs 16=y16,vs 17=y17,vs 18=y18,vs 19=y19,vs 20=y20,vs 21=y21,vs 22=y22,vs 23=y23
     go_frame
     go_wp2_with fail
     go_roundw
     case rel=>exact⟨k+1,ys++[z2],v9,by go_num,by omega,by simp[HZL.out],HT6,by show _=_;rw[List.map_append,hz.out,drop_take HZK.out,List.map_singleton,HEG.out],hbN⟩
     case measure=>simp[intOf]<;>omega
   ·have hkn:k=m.funcs.l.length:=by omega
    have hz2:=hz.out
    rw[hkn,List.take_length]at hz2
    obtain⟨A1,c1',hv1,_,_⟩:=own_form ht.out.os
    obtain⟨A2,c2',hv2,_,_⟩:=own_form ht.out.of
    subst hv1 hv2
    obtain⟨m2,r1,r2,r3⟩:=ht.out.done (w0:=W) HIN.out hs.out HZ2.out hz2
    have R1:=hide r1;have R2:=hide r2;have R3:=hide r3
    have hlt3:(m.funcs.l.length:Int)≤(k:Int):=by omega
    clear hlt hkn hz2 ht hz r1 r2 r3
    go_wp2_with fail
    go_ret
    exact⟨mg,m2,rfl,R1,R2,R3,HWV⟩
end Go.Proofs.YtomppgohoplemaaGreat
