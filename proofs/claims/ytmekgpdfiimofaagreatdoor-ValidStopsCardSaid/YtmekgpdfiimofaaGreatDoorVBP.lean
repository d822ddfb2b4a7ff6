import Derived.Test.YtmekgpdfiimofaaGreatDoorVBO
import Derived.Test.YtmekgpdfiimofaaGreatDoorVAF
import Derived.Lib.MinMax
import Derived.IntWalk
import Derived.Test.YtmekgpdfiimofaaGreatDoorVAS
import Derived.Test.YtmekgpdfiimofaaGreatDoorVBM
import Derived.Test.YtmekgpdfiimofaaGreatDoorVBN
set_option linter.unusedVariables false
namespace Go.Proofs.YtmekgpdfiimofaaGreatDoor
open Go.RowKit Go.Lib
section
variable {P:Program} {o:Oper} {ρ:Operand→Value} {W:World} {post:Value→World→Prop}
theorem OpOut.max2 {x y:Operand} {t:TypeId} {a b:Int} (ho:o.op=.call { callee:=.builtin .max,args:=#[x,y],argTypes:=#[t,t] }) (hx:ρ x=.int .i64 a) (hy:ρ y=.int .i64 b) (h:post (.int .i64 (max a b)) W):OpOut P o ρ W post :=
 ⟨by unfold execOp;simp only[ho,resolve,invoke,builtin,Sem.run_bind,Sem.run_pure,Result.andThen_ok,List.map_toArray,List.map_cons,List.map_nil,hx,hy,run_max_ints];exact h⟩
end
def Great7 (m:MoL) (w:World) (e:Ending) (w':World):Prop :=
 ∃x:Int,e=.returned (.int .i64 x)∧0≤x∧Hid (x=0→MoSt m∧m.funcs.l.length≤12∧m.das.l.length≤4)∧Hid (Below w.heap.size w w')
set_option maxRecDepth 100000 in
set_option maxHeartbeats 1600000 in
theorem great7_any (m:MoL) (w:World) (h:Hid (MoIn w m)) (hr:Hid (MoRe m)) :
  Calls Tryz.prog 5 #[.agg m.cs.toArray] w (Great7 m w):=by
 obtain⟨W,hW,hb,hxb,hsz⟩:=box_new w m.cs.toArray 31
 obtain⟨gb,hgb⟩:∃gb,w.heap.size=gb:=⟨_,rfl⟩
 rw[hgb]at hxb
 have hfl:m.funcs.l.length≤140737488351232:=hr.out.funcs
 have hdl:m.das.l.length≤140737488351232:=hr.out.das
 obtain⟨a1,ha1⟩:∃a:Int,max ((m.funcs.l.length:Int)-12) 0=a:=⟨_,rfl⟩
 obtain⟨a2,ha2⟩:∃a:Int,max ((m.das.l.length:Int)-4) 0=a:=⟨_,rfl⟩
 have b1:0≤a1∧a1≤140737488351232∧(a1=0→m.funcs.l.length≤12):=by omega
 have b2:0≤a2∧a2≤140737488351232∧(a2=0→m.das.l.length≤4):=by omega
 have HB1:=hide b1;have HB2:=hide b2;have HA1:=hide ha1;have HA2:=hide ha2
 have HW:=hide hW;have HG:=hide hgb;have HB:=hide hb;have HX:=hide hxb
 have HH:=hide (h.out.below hb)
 have HFL:=hide hfl;have HDL:=hide hdl
 clear hW hb hxb hsz hgb ha1 ha2 b1 b2 hfl hdl
 unfold MoL.cs Sl.val at HW HX ⊢
 go_enter Tryz.func5,Tryz.ntmps5
 go_upto_region 1 with fail
 rw[HW.out,HG.out]
 refine wp_region_factsR (l:=[_,_,_,_,_,_,_,_,_,_,_,_,_,_,_]) grew_ext (factsOf [fun yy _=>yy=.agg #[.slice m.sigs.at_ m.sigs.l.length m.sigs.cap,.slice m.imps.at_ m.imps.l.length m.imps.cap,.slice m.funcs.at_ m.funcs.l.length m.funcs.cap,.int .i64 m.table,.slice m.mems.at_ m.mems.l.length m.mems.cap,.slice m.gls.at_ m.gls.l.length m.gls.cap,.slice m.exs.at_ m.exs.l.length m.exs.cap,.int .i64 m.start,.slice m.els.at_ m.els.l.length m.els.cap,.slice m.das.at_ m.das.l.length m.das.cap],
  fun yy _=>∃x:Int,yy=.int .i64 x∧GS 4000000000000000000 (MoSt m) x,
  fun yy _=>yy=.pointer (some ⟨gb,2,none⟩),
  fun yy _=>yy=.slice m.funcs.at_ m.funcs.l.length m.funcs.cap,
  fun yy _=>yy=.int .i64 (m.funcs.l.length:Int),
  fun yy _=>yy=.int .i64 ((m.funcs.l.length:Int)-12),
  fun yy _=>yy=.int .i64 a1,
  fun yy _=>∃x:Int,yy=.int .i64 (x+a1)∧GS 4000000000000000000 (MoSt m) x,
  fun yy _=>yy=.pointer (some ⟨gb,9,none⟩),
  fun yy _=>yy=.slice m.das.at_ m.das.l.length m.das.cap,
  fun yy _=>yy=.int .i64 (m.das.l.length:Int),
  fun yy _=>yy=.int .i64 ((m.das.l.length:Int)-4),
  fun yy _=>yy=.int .i64 a2,
  fun yy _=>∃x:Int,yy=.int .i64 (x+a1+a2)∧GS 4000000000000000000 (MoSt m) x,
  fun yy _=>∃x:Int,yy=.int .i64 (x+a1+a2)∧GS 4000000000000000000 (MoSt m) x]) (by kernel_rfl) (by kernel_rfl) ?_ ?_
 ·refine⟨?_,?_,?_,?_,?_,?_,?_,?_,?_,?_,?_,?_,?_,?_,?_,trivial⟩
  ·refine⟨fun ρ V hk=>?_⟩
   have o1:ρ (.tmp 1)=.pointer (some ⟨gb,0,none⟩):=hk.old 1 (by decide)
   have hk2:=(hk.below.block gb (blk_lt HX.out)).trans HX.out
   have c0:=cell_blk hk2 0;have c1:=cell_blk hk2 1;have c2:=cell_blk hk2 2;have c3:=cell_blk hk2 3;have c4:=cell_blk hk2 4;have c5:=cell_blk hk2 5;have c6:=cell_blk hk2 6;have c7:=cell_blk hk2 7;have c8:=cell_blk hk2 8;have c9:=cell_blk hk2 9
   simp at c0 c1 c2 c3 c4 c5 c6 c7 c8 c9
   exact OpOut.load (x:=.tmp 1) rfl o1 (by go_simp) ⟨Below.refl _ _,rfl⟩
  ·refine⟨fun ρ V hk=>?_⟩
   have h0:=(hk.fact 0 3 (by decide) rfl).pure
   refine OpOut.fn (args:=#[.agg #[.slice m.sigs.at_ m.sigs.l.length m.sigs.cap,.slice m.imps.at_ m.imps.l.length m.imps.cap,.slice m.funcs.at_ m.funcs.l.length m.funcs.cap,.int .i64 m.table,.slice m.mems.at_ m.mems.l.length m.mems.cap,.slice m.gls.at_ m.gls.l.length m.gls.cap,.slice m.exs.at_ m.exs.l.length m.exs.cap,.int .i64 m.start,.slice m.els.at_ m.els.l.length m.els.cap,.slice m.das.at_ m.das.l.length m.das.cap]]) rfl (hk.func _) (by simp[h0]) Tryz.func14 (by kernel_rfl) rfl ?_
   have hgr:=lgreat_any m V (hide (HH.out.below hk.below)) hr
   unfold MoL.cs Sl.val at hgr
   refine hgr.mono ?_;rintro e w5 ⟨x,rfl,h1,h2⟩
   exact⟨_,rfl,h2.out,x,rfl,h1.out⟩
  ·refine⟨fun ρ V hk=>?_⟩
   have o1:ρ (.tmp 1)=.pointer (some ⟨gb,0,none⟩):=hk.old 1 (by decide)
   exact OpOut.fieldAddr (x:=.tmp 1) rfl o1 (by go_simp) ⟨Below.refl _ _,rfl⟩
  ·refine⟨fun ρ V hk=>?_⟩
   have h2:=(hk.fact 2 5 (by decide) rfl).pure
   have c2:V.cell? ⟨gb,2,none⟩=some (.slice m.funcs.at_ m.funcs.l.length m.funcs.cap):=cell_blk ((hk.below.block gb (blk_lt HX.out)).trans HX.out) 2
   exact OpOut.load (x:=.tmp 5) rfl h2 (by go_simp) ⟨Below.refl _ _,rfl⟩
  ·refine⟨fun ρ V hk=>?_⟩
   have h3:=(hk.fact 3 6 (by decide) rfl).pure
   exact OpOut.len (x:=.tmp 6) rfl (by kernel_rfl) h3 ⟨Below.refl _ _,rfl⟩
  ·refine⟨fun ρ V hk=>?_⟩
   have h4:=(hk.fact 4 7 (by decide) rfl).pure
   have:=HFL.out
   exact OpOut.bin (x:=.tmp 7) (y:=.const (.int .i64 12)) (v:=.int .i64 ((m.funcs.l.length:Int)-12)) rfl (by rw[h4,hk.const];go_simp) (by rw[h4,hk.const];go_simp;exact IntWalk.i64_in _ ⟨by omega,by omega⟩) ⟨Below.refl _ _,rfl⟩
  ·refine⟨fun ρ V hk=>?_⟩
   have h5:=(hk.fact 5 8 (by decide) rfl).pure
   exact OpOut.max2 (x:=.tmp 8) (y:=.const (.int .i64 0)) rfl h5 (hk.const _) ⟨Below.refl _ _,show Value.int .i64 (max ((m.funcs.l.length:Int)-12) 0)=.int .i64 a1 by rw[HA1.out]⟩
  ·refine⟨fun ρ V hk=>?_⟩
   obtain⟨w1,hw1,x,h1,hx⟩:=hk.fact 1 4 (by decide) rfl
   have h6:=(hk.fact 6 9 (by decide) rfl).pure
   obtain⟨q1,q2,_⟩:=HB1.out
   have q3:=hx.1;have q4:=hx.2.1
   exact OpOut.bin (x:=.tmp 4) (y:=.tmp 9) (v:=.int .i64 (x+a1)) rfl (by rw[h1,h6];go_simp) (by rw[h1,h6];clear hx hw1;go_simp;exact IntWalk.i64_in _ ⟨by omega,by omega⟩) ⟨Below.refl _ _,x,rfl,hx⟩
  ·refine⟨fun ρ V hk=>?_⟩
   have o1:ρ (.tmp 1)=.pointer (some ⟨gb,0,none⟩):=hk.old 1 (by decide)
   exact OpOut.fieldAddr (x:=.tmp 1) rfl o1 (by go_simp) ⟨Below.refl _ _,rfl⟩
  ·refine⟨fun ρ V hk=>?_⟩
   have h8:=(hk.fact 8 11 (by decide) rfl).pure
   have c9:V.cell? ⟨gb,9,none⟩=some (.slice m.das.at_ m.das.l.length m.das.cap):=cell_blk ((hk.below.block gb (blk_lt HX.out)).trans HX.out) 9
   exact OpOut.load (x:=.tmp 11) rfl h8 (by go_simp) ⟨Below.refl _ _,rfl⟩
  ·refine⟨fun ρ V hk=>?_⟩
   have h9:=(hk.fact 9 12 (by decide) rfl).pure
   exact OpOut.len (x:=.tmp 12) rfl (by kernel_rfl) h9 ⟨Below.refl _ _,rfl⟩
  ·refine⟨fun ρ V hk=>?_⟩
   have h10:=(hk.fact 10 13 (by decide) rfl).pure
   have:=HDL.out
   exact OpOut.bin (x:=.tmp 13) (y:=.const (.int .i64 4)) (v:=.int .i64 ((m.das.l.length:Int)-4)) rfl (by rw[h10,hk.const];go_simp) (by rw[h10,hk.const];go_simp;exact IntWalk.i64_in _ ⟨by omega,by omega⟩) ⟨Below.refl _ _,rfl⟩
  ·refine⟨fun ρ V hk=>?_⟩
   have h11:=(hk.fact 11 14 (by decide) rfl).pure
   exact OpOut.max2 (x:=.tmp 14) (y:=.const (.int .i64 0)) rfl h11 (hk.const _) ⟨Below.refl _ _,show Value.int .i64 (max ((m.das.l.length:Int)-4) 0)=.int .i64 a2 by rw[HA2.out]⟩
  ·refine⟨fun ρ V hk=>?_⟩
   obtain⟨w1,hw1,x,h1,hx⟩:=hk.fact 7 10 (by decide) rfl
   have h12:=(hk.fact 12 15 (by decide) rfl).pure
   obtain⟨q1,q2,_⟩:=HB1.out
   obtain⟨q5,q6,_⟩:=HB2.out
   have q3:=hx.1;have q4:=hx.2.1
   exact OpOut.bin (x:=.tmp 10) (y:=.tmp 15) (v:=.int .i64 (x+a1+a2)) rfl (by rw[h1,h12];go_simp) (by rw[h1,h12];clear hx hw1;go_simp;exact IntWalk.i64_in _ ⟨by omega,by omega⟩) ⟨Below.refl _ _,x,rfl,hx⟩
  ·refine⟨fun ρ V hk=>?_⟩
   obtain⟨w1,hw1,x,h1,hx⟩:=hk.fact 13 16 (by decide) rfl
   exact OpOut.assign (.tmp 16) rfl ⟨Below.refl _ _,x,h1,hx⟩
 ·intro vs V hbv hf
  obtain⟨w1,hw1,x,h1,hx⟩:=hf 14 (by decide)
  have HXX:=hide hx
  have hbw:Hid (Below w.heap.size w V):=HB.out.trans (hbv.mono HB.out.size)
  clear hf hw1 hbv hx
  simp only[fillL]
  rw[h1]
  clear h1
  generalize vs 0=z0,vs 1=z1,vs 2=z2,vs 3=z3,vs 4=z4,vs 5=z5,vs 6=z6,vs 7=z7,vs 8=z8,vs 9=z9,vs 10=z10,vs 11=z11,vs 12=z12,vs 13=z13
  go_frame
  go_wp2_with fail
  go_ret
  obtain⟨p1,p2,p3⟩:=HB1.out
  obtain⟨r1,r2,r3⟩:=HB2.out
  obtain⟨s1,s2,s3⟩:=HXX.out
  exact⟨_,rfl,by omega,(by show _→_;intro h0;exact⟨s3 (by omega),p3 (by omega),r3 (by omega)⟩),hbw⟩
end Go.Proofs.YtmekgpdfiimofaaGreatDoor
namespace Go.Proofs.YtmekgpdfiimofaaGreatDoor
open Go.RowKit
def plLm (y:MLm):MLm:=⟨y.mn,max y.mx (-1),y.wide⟩
def plainM (m:MoL) (A:Option Addr) (c:Nat):MoL:={ m with mems:=⟨A,c,m.mems.l.map plLm⟩ }
theorem lm_elem:IsElem Tryz.prog 25 68 3 24:=IsElem.mk' Tryz.underlying25 (z:=.agg #[.int .i64 0,.int .i64 0,.bool false]) (by kernel_rfl) rfl (by omega)
theorem lm_one {l:List MLm}:∀u∈l.flatMap MLm.cs,u.oneCell'=true:=by
 intro u hu
 obtain⟨z,_,hz⟩:=List.mem_flatMap.1 hu
 simp[MLm.cs]at hz
 rcases hz with rfl|rfl|rfl<;>rfl
def plL (l:List MLm) (k:Nat):List MLm:=(l.take k).map plLm++l.drop k
theorem plL_zero (l:List MLm):plL l 0=l:=by simp[plL]
theorem plL_end (l:List MLm):plL l l.length=l.map plLm:=by simp[plL]
theorem plL_get {l:List MLm} {k:Nat} {y:MLm} (h:l[k]?=some y):(plL l k)[k]?=some y:=by
 have hk:=(List.getElem?_eq_some_iff.1 h).1
 unfold plL
 rw[List.getElem?_append_right (by simp;omega)]
 simp[Nat.min_eq_left (Nat.le_of_lt hk),h]
theorem plL_succ {l:List MLm} {k:Nat} {y:MLm} (h:l[k]?=some y):(plL l k).set k (plLm y)=plL l (k+1):=by
 have hk:=(List.getElem?_eq_some_iff.1 h).1
 unfold plL
 rw[List.set_append_right _ _ (by simp;omega),show k-((l.take k).map plLm).length=0 by simp;omega]
 have hd:l.drop k=y::l.drop (k+1):=by
  rw[List.drop_eq_getElem_cons hk]
  congr 1
  rw[List.getElem?_eq_getElem hk]at h
  injection h
 rw[hd,List.set_cons_zero,List.take_add_one,h]
 simp
theorem store10 {W:World} {g:Nat} {a0 a1 a2 a3 a4 a5 a6 a7 a8 a9:Value} {t:TypeId} (h:W.heap[g]?=some (.cells #[a0,a1,a2,a3,a4,a5,a6,a7,a8,a9] t (0,0))) (x0 x1 x2 x3 x4 x5 x6 x7 x8 x9:Value) :
  ∃W',((((((((((W.setCell ⟨g,0,none⟩ x0).setCell ⟨g,1,none⟩ x1).setCell ⟨g,2,none⟩ x2).setCell ⟨g,3,none⟩ x3).setCell ⟨g,4,none⟩ x4).setCell ⟨g,5,none⟩ x5).setCell ⟨g,6,none⟩ x6).setCell ⟨g,7,none⟩ x7).setCell ⟨g,8,none⟩ x8).setCell ⟨g,9,none⟩ x9)=W' ∧
   W'.heap[g]?=some (.cells #[x0,x1,x2,x3,x4,x5,x6,x7,x8,x9] t (0,0))∧Only [g] W W':=by
 refine⟨_,rfl,?_,?_⟩
 ·rw[setCell_blk (setCell_blk (setCell_blk (setCell_blk (setCell_blk (setCell_blk (setCell_blk (setCell_blk (setCell_blk (setCell_blk h 0 x0) 1 x1) 2 x2) 3 x3) 4 x4) 5 x5) 6 x6) 7 x7) 8 x8) 9 x9]
  simp
 ·have k:∀(V:World) (j:Nat) (x:Value),Only [g] W V→Only [g] W (V.setCell ⟨g,j,none⟩ x):=fun V j x hV=>hV.trans (Only.setCell V (p:=⟨g,j,none⟩) (by simp) x)
  exact k _ _ _ (k _ _ _ (k _ _ _ (k _ _ _ (k _ _ _ (k _ _ _ (k _ _ _ (k _ _ _ (k _ _ _ (Only.setCell W (p:=⟨g,0,none⟩) (by simp) x0)))))))))
def PlainV (m:MoL) (w:World) (e:Ending) (w':World):Prop :=
 ∃(A:Option Addr) (c:Nat),e=.returned (.agg #[.slice m.sigs.at_ m.sigs.l.length m.sigs.cap,.slice m.imps.at_ m.imps.l.length m.imps.cap,.slice m.funcs.at_ m.funcs.l.length m.funcs.cap,.int .i64 m.table,.slice A m.mems.l.length c,.slice m.gls.at_ m.gls.l.length m.gls.cap,.slice m.exs.at_ m.exs.l.length m.exs.cap,.int .i64 m.start,.slice m.els.at_ m.els.l.length m.els.cap,.slice m.das.at_ m.das.l.length m.das.cap]) ∧
  Hid (RowF w' w.heap.size 3 MLm.cs ⟨A,c,m.mems.l.map plLm⟩)∧Hid (Below w.heap.size w w')
set_option maxRecDepth 100000 in
set_option maxHeartbeats 1600000 in
theorem plain14_any (m:MoL) (w:World) (h:Hid (MoIn w m)) (hs:m.mems.l.length≤8) :
  Calls Tryz.prog 7 #[.agg m.cs.toArray] w (PlainV m w):=by
 obtain⟨W1,hW1,hb1,hx1,hs1⟩:=box_new w m.cs.toArray 31
 obtain⟨W2,hW2,hb2,hx2,hs2⟩:=box_new W1 #[.slice none 0 0,.slice none 0 0,.slice none 0 0,.int .i64 0,.slice none 0 0,.slice none 0 0,.slice none 0 0,.int .i64 0,.slice none 0 0,.slice none 0 0] 31
 obtain⟨W3,hW3,hb3,hx3,hs3⟩:=box_new W2 #[] 68
 obtain⟨g,hg⟩:∃g,w.heap.size=g:=⟨_,rfl⟩
 rw[hg]at hb1 hx1 hs1
 rw[hs1]at hb2 hx2 hs2
 rw[hs2]at hb3 hx3 hs3
 have hx12:=(hb2.block g (by omega)).trans hx1
 have hx13:=(hb3.block g (by omega)).trans hx12
 have hx23:=(hb3.block (g+1) (by omega)).trans hx2
 have hown3:Hid (W3.ownsRow (g+2) 68 3 (.slice (some ⟨g+2,0,none⟩) 0 0) 0 []):=⟨by simp,.inr ⟨g+2,0,#[],rfl,Nat.le_refl _,hx3,Nat.le_refl _,by unfold maxLen;omega,by simp,by simp⟩⟩
 have hB3:Below g w W3:=hb1.trans ((hb2.mono (by omega)).trans (hb3.mono (by omega)))
 obtain⟨n,hn⟩:∃n,m.mems.l.length=n:=⟨_,rfl⟩
 have hrd3:Hid (Reads W3 W3.heap.size 3 m.mems.at_ n (m.mems.l.flatMap MLm.cs)):=by
  have:=(h.out.below (by rw[hg];exact hB3)).mems.r
  rw[hn]at this
  exact this
 have hroom:Room 0 n 24:=room_of (by omega) (by omega)
 have hn8:n≤8:=by omega
 have hgl:g<W2.heap.size:=by omega
 have HG:=hide hg;have HW1:=hide hW1;have HW2:=hide hW2;have HW3:=hide hW3;have HX1:=hide hx13;have HX2:=hide hx23;have HX12:=hide hx12;have HB3:=hide hB3;have HN:=hide hn;have HS1:=hide hs1;have HS2:=hide hs2;have HS3:=hide hs3
 clear hg hW1 hW2 hW3 hb1 hb2 hb3 hx1 hx2 hx3 hx12 hx13 hx23 hs1 hs2 hs3 hB3 hs hn
 unfold MoL.cs Sl.val at HW1 HX1 HX12 ⊢
 rw[HN.out]at HW1 HX1 HX12 ⊢
 go_enter Tryz.func7,Tryz.ntmps7
 go_upto_region 1 with fail
 rw[HW1.out,HW2.out,HG.out]
 have c4:W3.cell? ⟨g,4,none⟩=some (.slice m.mems.at_ n m.mems.cap):=by have:=cell_blk HX1.out 4;simpa using this
 have c42:W2.cell? ⟨g,4,none⟩=some (.slice m.mems.at_ n m.mems.cap):=by have:=cell_blk HX12.out 4;simpa using this
 go_upto_region 2 with (at_builtin;rw[HW3.out];refine wpList_append_any rfl (.tmp 5) (.tmp 7) rfl (g+2) lm_elem (.slice (some ⟨W2.heap.size,0,none⟩) 0 0) 0 [] rfl (by rw[HS2.out];exact hown3.out) W3.heap.size m.mems.at_ n m.mems.cap (m.mems.l.flatMap MLm.cs) rfl hrd3.out lm_one hroom (by have:=HS3.out;omega) ?_;intro v4 w4 ho4 hg4;rw[Nat.zero_add,List.nil_append]at ho4;have HB4:Hid (Below (g+2) W3 w4):=(Below.refl _ _).grown hg4.by_ (by have:=HS3.out;omega) (fun q hq=>by have:=own_ge hown3.out q (by rw[←HS2.out];exact hq);omega);obtain⟨A,c,hv4,_,_⟩:=own_form ho4;subst hv4;have HO4:=hide ho4;clear ho4 hg4)
 clear c4 c42
 go_wp2_with fail
 go_loopw [4] (fun i w5=>∃k:Nat,i=.int .i64 (k:Int)∧k≤n∧Hid (w5.ownsRow (g+2) 68 3 (.slice A n c) n ((plL m.mems.l k).flatMap MLm.cs))∧Hid (Below (g+2) W3 w5)) (fun i _=>n-(intOf i).toNat)
 case atStart=>exact⟨0,rfl,Nat.zero_le _,by rw[plL_zero];exact HO4,HB4⟩
 case round =>
  obtain⟨k,rfl,hk,ho,hb⟩:=hrel
  by_cases hlt:k<n
  ·have hki:(k:Int)<(n:Int):=by omega
   obtain⟨y,hy⟩:∃y,m.mems.l[k]?=some y:=⟨_,List.getElem?_eq_getElem (by rw[HN.out];exact hlt)⟩
   obtain⟨q,c9,hv⟩:=own_some ho.out (by omega)
   injection hv with e1 _ e3
   subst e1
   have y1:wr.cell? ⟨q,k*3+1,none⟩=some (.int .i64 y.mx):=own_cell (g:=q) (dec:=MLm.cs) (fun _=>rfl) ho.out rfl (plL_get hy) 1 (by omega) _ rfl
   have f1:=own_free ho.out (g:=q) rfl (k*3+1)
   have hq:=own_ge ho.out q rfl
   have ho5:=own_setCell (g:=q) ho.out rfl (k*3+1) (by omega) (.int .i64 (max y.mx (-1)))
   rw[flatMap_set (dec:=MLm.cs) (size:=3) (fun _=>rfl) _ k 1 y (plLm y) (.int .i64 (max y.mx (-1))) (plL_get hy) (by omega) rfl,plL_succ hy]at ho5
   have HO5:=hide ho5
   have HB5:Hid (Below (g+2) W3 (wr.setCell ⟨q,k*3+1,none⟩ (.int .i64 (max y.mx (-1))))):=hb.out.setCell (p:=⟨q,k*3+1,none⟩) hq _
   clear ho5 hy e3 ho hb
   go_wp2_with fail
   go_roundw
   case rel=>exact⟨k+1,by go_num,by omega,HO5,HB5⟩
   case measure=>simp[intOf]<;>omega
  ·have hkn:k=n:=by omega
   subst hkn
   have hle:¬((k:Int)<(k:Int)):=by omega
   have ho6:=ho.out
   rw[show plL m.mems.l k=m.mems.l.map plLm by rw[←HN.out];exact plL_end _]at ho6
   have hr6:=RowF.of_own ho6 (by rw[List.length_map];exact HN.out.symm)
   have hk1:=(hb.out.block g (by omega)).trans HX1.out
   have hk2:=(hb.out.block (g+1) (by omega)).trans HX2.out
   obtain⟨W7,hW7⟩:∃W7,wr.setCell ⟨g,4,none⟩ (.slice A k c)=W7:=⟨_,rfl⟩
   have hx7:=setCell_blk hk1 4 (.slice A k c)
   have f4:=frozen_blk hk1 4
   have l4:(wr.cell? ⟨g,4,none⟩).isSome=true:=by have:=cell_blk hk1 4;simp at this;simp[this]
   rw[hW7]at hx7
   simp at hx7
   have hon7:Only [g] wr W7:=by rw[←hW7];exact Only.setCell _ (p:=⟨g,4,none⟩) (by simp) _
   have hk27:=(hon7.block (g+1) (blk_lt hk2) (by simp)).trans hk2
   obtain⟨W8,hW8,hx8,hon8⟩:=store10 hk27 (.slice m.sigs.at_ m.sigs.l.length m.sigs.cap) (.slice m.imps.at_ m.imps.l.length m.imps.cap) (.slice m.funcs.at_ m.funcs.l.length m.funcs.cap) (.int .i64 m.table) (.slice A k c) (.slice m.gls.at_ m.gls.l.length m.gls.cap) (.slice m.exs.at_ m.exs.l.length m.exs.cap) (.int .i64 m.start) (.slice m.els.at_ m.els.l.length m.els.cap) (.slice m.das.at_ m.das.l.length m.das.cap)
   have hB8:Below g w W8:=by
    have b5:Below g w wr:=HB3.out.trans (hb.out.mono (by omega))
    have b7:Below g w W7:=b5.trans (hon7.below (by have:=b5.size;have:=HG.out;omega) (by simp))
    exact b7.trans (hon8.below (by have:=b7.size;have:=HG.out;omega) (by simp))
   have hr8:RowF W8 g 3 MLm.cs ⟨A,c,m.mems.l.map plLm⟩:=by
    have h7:=hr6.only hon7 (fun ad h1 h0=>by have:=hr6.ge ad h1 h0;simp;omega)
    exact(h7.only hon8 (fun ad h1 h0=>by have:=h7.ge ad h1 h0;simp;omega)).base (by omega)
   have z0:=cell_blk hx7 0;have z1:=cell_blk hx7 1;have z2:=cell_blk hx7 2;have z3:=cell_blk hx7 3;have z4:=cell_blk hx7 4;have z5:=cell_blk hx7 5;have z6:=cell_blk hx7 6;have z7:=cell_blk hx7 7;have z8:=cell_blk hx7 8;have z9:=cell_blk hx7 9
   simp at z0 z1 z2 z3 z4 z5 z6 z7 z8 z9
   have d0:=cell_blk hk27 0;have d1:=cell_blk hk27 1;have d2:=cell_blk hk27 2;have d3:=cell_blk hk27 3;have d4:=cell_blk hk27 4;have d5:=cell_blk hk27 5;have d6:=cell_blk hk27 6;have d7:=cell_blk hk27 7;have d8:=cell_blk hk27 8;have d9:=cell_blk hk27 9
   simp at d0 d1 d2 d3 d4 d5 d6 d7 d8 d9
   have t0:=cell_blk hx8 0;have t1:=cell_blk hx8 1;have t2:=cell_blk hx8 2;have t3:=cell_blk hx8 3;have t4:=cell_blk hx8 4;have t5:=cell_blk hx8 5;have t6:=cell_blk hx8 6;have t7:=cell_blk hx8 7;have t8:=cell_blk hx8 8;have t9:=cell_blk hx8 9
   simp at t0 t1 t2 t3 t4 t5 t6 t7 t8 t9
   have e4:wr.cell? ⟨g,4,none⟩=some (.slice m.mems.at_ k m.mems.cap):=by have:=cell_blk hk1 4;simpa using this
   have r0:=frozen_blk hk27 0;have r1:=frozen_blk hk27 1;have r2:=frozen_blk hk27 2;have r3:=frozen_blk hk27 3;have r4:=frozen_blk hk27 4;have r5:=frozen_blk hk27 5;have r6:=frozen_blk hk27 6;have r7:=frozen_blk hk27 7;have r8:=frozen_blk hk27 8;have r9:=frozen_blk hk27 9
   have HW7:=hide hW7;have HW8:=hide hW8;have HR8:=hide hr8;have HB8:=hide hB8
   clear hW7 hW8 hr8 hB8 hk1 hk2 hk27 hx7 hx8 hon7 hon8 hr6 ho6 l4 hlt ho hb
   go_upto_region 7 with fail
   rw[HW7.out]
   clear e4 f4
   go_wp2_with fail
   rw[HW8.out]
   refine bodyPost_ret (v:=.agg #[.slice m.sigs.at_ m.sigs.l.length m.sigs.cap,.slice m.imps.at_ m.imps.l.length m.imps.cap,.slice m.funcs.at_ m.funcs.l.length m.funcs.cap,.int .i64 m.table,.slice A k c,.slice m.gls.at_ m.gls.l.length m.gls.cap,.slice m.exs.at_ m.exs.l.length m.exs.cap,.int .i64 m.start,.slice m.els.at_ m.els.l.length m.els.cap,.slice m.das.at_ m.das.l.length m.das.cap]) (by simp[results,Tryz.results7,go_sem,t0,t1,t2,t3,t4,t5,t6,t7,t8,t9]) rfl ?_
   refine⟨A,c,by rw[HN.out],?_,?_⟩
   ·rw[HG.out];exact HR8
   ·rw[HG.out];exact HB8
def LaidV (w:World):Prop:=∃ml,w.cell? ⟨1,0,none⟩=some (.int .i64 ml)
structure VIn (W:World) (xg:Nat) (m:MoL) (ml:Int):Prop where
 cells:∀V,Below W.heap.size W V→(V.cell? ⟨xg,0,none⟩=some (.slice m.sigs.at_ m.sigs.l.length m.sigs.cap)∧V.cell? ⟨xg,1,none⟩=some (.slice m.imps.at_ m.imps.l.length m.imps.cap)∧V.cell? ⟨xg,2,none⟩=some (.slice m.funcs.at_ m.funcs.l.length m.funcs.cap)∧V.cell? ⟨xg,3,none⟩=some (.int .i64 m.table)∧V.cell? ⟨xg,4,none⟩=some (.slice m.mems.at_ m.mems.l.length m.mems.cap)∧V.cell? ⟨xg,5,none⟩=some (.slice m.gls.at_ m.gls.l.length m.gls.cap)∧V.cell? ⟨xg,6,none⟩=some (.slice m.exs.at_ m.exs.l.length m.exs.cap)∧V.cell? ⟨xg,7,none⟩=some (.int .i64 m.start)∧V.cell? ⟨xg,8,none⟩=some (.slice m.els.at_ m.els.l.length m.els.cap)∧V.cell? ⟨xg,9,none⟩=some (.slice m.das.at_ m.das.l.length m.das.cap))∧MoIn V m∧V.cell? ⟨1,0,none⟩=some (.int .i64 ml)
theorem vin_of {w:World} {m:MoL} {ml:Int} (h:MoIn w m) (hml:w.cell? ⟨1,0,none⟩=some (.int .i64 ml)):∃W xg,w.alloc (.cells m.cs.toArray 31)=W∧w.heap.size=xg∧Below w.heap.size w W∧VIn W xg m ml:=by
 obtain⟨W,hW,hb,hx,_⟩:=box_new w m.cs.toArray 31
 refine⟨W,_,hW,rfl,hb,⟨fun V hV=>?_⟩⟩
 have hk:=(hV.block _ (blk_lt hx)).trans hx
 have hwV:Below w.heap.size w V:=hb.trans (hV.mono hb.size)
 exact⟨⟨cell_blk hk 0,cell_blk hk 1,cell_blk hk 2,cell_blk hk 3,cell_blk hk 4,cell_blk hk 5,cell_blk hk 6,cell_blk hk 7,cell_blk hk 8,cell_blk hk 9⟩,h.below hwV,(hwV.cell (World.block_lt_of_cell? w _ hml)).trans hml⟩
theorem vf_elem:IsElem Tryz.prog 24 44 3 56:=IsElem.mk' Tryz.underlying24 (z:=.agg #[.int .i64 0,.slice none 0 0,.slice none 0 0]) (by kernel_rfl) rfl (by omega)
theorem vcs_one {l:List FuL}:∀u∈l.flatMap FuL.cs,u.oneCell'=true:=by
 intro u hu
 obtain⟨z,_,hz⟩:=List.mem_flatMap.1 hu
 simp[FuL.cs,Sl.val]at hz
 rcases hz with rfl|rfl|rfl<;>rfl
def x0L:XL:=⟨0,0,0,0,noSl⟩
def x11L:XL:=⟨11,0,0,0,noSl⟩
def stopBd (q:Nat):BdL:=⟨noSl,⟨some ⟨q,0,none⟩,2,[x0L,x11L]⟩⟩
def stopFu (y:FuL) (q:Nat):FuL:=⟨y.sig,stopBd q⟩
theorem stopFu_bd (y:FuL) (q:Nat):(stopFu y q).g.bd=stopB:=rfl
def stopCs:Array Value:=#[.int .i64 0,.int .u64 0,.int .u64 0,.int .i64 0,.slice none 0 0,.int .i64 11,.int .u64 0,.int .u64 0,.int .i64 0,.slice none 0 0]
structure StpF (w:World) (Q:Nat) (p:Nat→Bool) (k:Nat) (l fs:List FuL):Prop where
 len:fs.length=l.length
 at_:∀j y,l[j]?=some y→(j<k∧p j=true∧∃q,fs[j]?=some (stopFu y q)∧Q≤q∧w.heap[q]?=some (.cells stopCs 38 (0,0)))∨(¬(j<k∧p j=true)∧fs[j]?=some y)
section
variable {w w':World} {Q k:Nat} {p:Nat→Bool} {l fs:List FuL} {y:FuL}
theorem StpF.zero (w:World) (Q:Nat) (p:Nat→Bool) (l:List FuL):StpF w Q p 0 l l:=⟨rfl,fun j y hy=>.inr ⟨fun h=>by omega,hy⟩⟩
theorem StpF.only {S:List Nat} (h:StpF w Q p k l fs) (ho:Only S w w') (hS:∀x∈S,x<Q):StpF w' Q p k l fs:=by
 refine⟨h.len,fun j y hy=>?_⟩
 rcases h.at_ j y hy with ⟨h1,h2,q,h3,h4,h5⟩|h1
 ·exact .inl ⟨h1,h2,q,h3,h4,(ho.block q (blk_lt h5) (fun hm=>by have:=hS q hm;omega)).trans h5⟩
 ·exact .inr h1
theorem StpF.below (h:StpF w Q p k l fs) (hb:Below w.heap.size w w'):StpF w' Q p k l fs:=h.only (S:=[]) (Only.of_below hb) (by simp)
theorem StpF.get (h:StpF w Q p k l fs) (hy:l[k]?=some y):fs[k]?=some y:=by
 rcases h.at_ k y hy with ⟨h1,_⟩|⟨_,h2⟩
 ·omega
 ·exact h2
theorem StpF.skip (h:StpF w Q p k l fs) (hp:p k=false):StpF w Q p (k+1) l fs:=by
 refine⟨h.len,fun j y hy=>?_⟩
 rcases h.at_ j y hy with ⟨h1,h2,h3⟩|⟨h1,h2⟩
 ·exact .inl ⟨by omega,h2,h3⟩
 ·refine .inr ⟨fun hh=>h1 ⟨?_,hh.2⟩,h2⟩
  by_cases e:j=k
  ·subst e;rw[hp]at hh;exact absurd hh.2 (by simp)
  ·omega
theorem StpF.put {q:Nat} (h:StpF w Q p k l fs) (hp:p k=true) (hy:l[k]?=some y) (hq:Q≤q) (hx:w.heap[q]?=some (.cells stopCs 38 (0,0))):StpF w Q p (k+1) l (fs.set k (stopFu y q)):=by
 refine⟨by rw[List.length_set];exact h.len,fun j z hz=>?_⟩
 have hk:k<fs.length:=by rw[h.len];exact(List.getElem?_eq_some_iff.1 hy).1
 by_cases e:j=k
 ·subst e
  rw[hy]at hz
  injection hz with hz
  subst hz
  exact .inl ⟨by omega,hp,q,by rw[List.getElem?_set_self hk],hq,hx⟩
 ·rw[List.getElem?_set_ne (fun h=>e h.symm)]
  rcases h.at_ j z hz with ⟨h1,h2,h3⟩|⟨h1,h2⟩
  ·exact .inl ⟨by omega,h2,h3⟩
  ·exact .inr ⟨fun hh=>h1 ⟨by omega,hh.2⟩,h2⟩
end
theorem stop_row {w:World} {q:Nat} (h:w.heap[q]?=some (.cells stopCs 38 (0,0))):BdIn w (stopBd q):=by
 have ho:w.ownsRow q 38 5 (.slice (some ⟨q,0,none⟩) 2 2) 2 ([x0L,x11L].flatMap XL.cs):=⟨by simp[XL.cs,insD],.inr ⟨q,2,stopCs,rfl,Nat.le_refl _,h,Nat.le_refl _,by unfold maxLen;omega,by simp[stopCs],by simp[stopCs,XL.cs,insD,XL.t,x0L,x11L,noSl,Sl.val]⟩⟩
 refine⟨row_none,(RowF.of_own ho rfl).row,fun x hx=>?_,fun x hx=>?_⟩
 ·simp[stopBd]at hx
  rcases hx with rfl|rfl<;>exact row_none
 ·simp[stopBd]at hx
  rcases hx with rfl|rfl<;>exact⟨by decide,by decide,by decide,by decide,by decide,by decide,fun n hn=>by simp[x0L,x11L,XL.x,noSl]at hn⟩
theorem stop_len (q:Nat):BdLen 151 61 110 (stopBd q):=by
 refine⟨by simp[stopBd,noSl],by simp[stopBd],fun x hx=>?_⟩
 simp[stopBd]at hx
 rcases hx with rfl|rfl<;>simp[x0L,x11L,noSl]
def vputF (m:MoL) (A:Option Addr) (c:Nat) (fs:List FuL):MoL:={ m with funcs:=⟨A,c,fs⟩ }
section
variable {W:World} {Q k:Nat} {p:Nat→Bool} {m:MoL} {fs:List FuL} {A:Option Addr} {c:Nat}
theorem StpF.mem (h:StpF W Q p k m.funcs.l fs) {x:FuL} (hx:x∈fs):x∈m.funcs.l∨∃y∈m.funcs.l,∃q,x=stopFu y q∧W.heap[q]?=some (.cells stopCs 38 (0,0)):=by
 obtain⟨j,hj⟩:=List.mem_iff_getElem?.1 hx
 have hlt:j<m.funcs.l.length:=by rw[←h.len];exact(List.getElem?_eq_some_iff.1 hj).1
 obtain⟨y,hy⟩:∃y,m.funcs.l[j]?=some y:=⟨_,List.getElem?_eq_getElem hlt⟩
 rcases h.at_ j y hy with ⟨_,_,q,h3,_,h5⟩|⟨_,h2⟩
 ·rw[hj]at h3
  injection h3 with h3
  exact .inr ⟨y,List.mem_of_getElem? hy,q,h3,h5⟩
 ·rw[hj]at h2
  injection h2 with h2
  subst h2
  exact .inl (List.mem_of_getElem? hy)
theorem put_in (h:MoIn W m) (hF:Row W 3 FuL.cs ⟨A,c,fs⟩) (hS:StpF W Q p k m.funcs.l fs):MoIn W (vputF m A c fs):=by
 refine⟨h.sigs,h.sig,h.imps,h.imp,hF,fun x hx=>?_,h.table,h.mems,h.mem,h.gls,h.gl,h.exs,h.ex,h.start,h.els,h.el,h.das,h.da⟩
 rcases hS.mem hx with hx|⟨y,hy,q,rfl,hq⟩
 ·exact h.func x hx
 ·exact⟨(h.func y hy).1,stop_row hq⟩
theorem put_sm (h:MoSm m) (hS:StpF W Q p k m.funcs.l fs):MoSm (vputF m A c fs):=by
 refine⟨h.sigs,h.sig,h.imps,h.imp,by show fs.length≤110;rw[hS.len];exact h.funcs,fun x hx=>?_,h.mems,h.gls,h.exs,h.ex,h.els,h.el,h.das,h.da⟩
 rcases hS.mem hx with hx|⟨y,hy,q,rfl,hq⟩
 ·exact h.func x hx
 ·exact stop_len q
theorem put_bd (hS:StpF W Q p m.funcs.l.length m.funcs.l fs) {i:Nat} (hi:i<m.funcs.l.length):(p i=true→((fs.map FuL.g).getD i noFu).bd=stopB)∧(p i=false→((fs.map FuL.g).getD i noFu).bd=(m.g.funcs.getD i noFu).bd):=by
 obtain⟨y,hy⟩:∃y,m.funcs.l[i]?=some y:=⟨_,List.getElem?_eq_getElem hi⟩
 rcases hS.at_ i y hy with ⟨_,h2,q,h3,_⟩|⟨h1,h2⟩
 ·refine⟨fun _=>?_,fun hp=>by rw[hp]at h2;cases h2⟩
  rw[getD_some (x:=(stopFu y q).g) (by simp[h3])]
  exact stopFu_bd y q
 ·refine⟨fun hp=>absurd ⟨hi,hp⟩ h1,fun _=>?_⟩
  rw[getD_some (x:=y.g) (by simp[h2]),getD_some (x:=y.g) (by simp[MoL.g,hy])]
theorem plain_in (h:MoIn W m) (hF:Row W 3 MLm.cs ⟨A,c,m.mems.l.map plLm⟩):MoIn W (plainM m A c):=by
 refine⟨h.sigs,h.sig,h.imps,h.imp,h.funcs,h.func,h.table,hF,fun x hx=>?_,h.gls,h.gl,h.exs,h.ex,h.start,h.els,h.el,h.das,h.da⟩
 obtain⟨y,hy,rfl⟩:=List.mem_map.1 hx
 have:=h.mem y hy
 unfold I64 at *
 exact⟨this.1,by show _≤max y.mx (-1);omega,by show max y.mx (-1)≤_;omega⟩
theorem plain_sm (h:MoSm m):MoSm (plainM m A c):=⟨h.sigs,h.sig,h.imps,h.imp,h.funcs,h.func,by show (m.mems.l.map plLm).length≤8;rw[List.length_map];exact h.mems,h.gls,h.exs,h.ex,h.els,h.el,h.das,h.da⟩
end
theorem stop_own {w:World} {base k q:Nat} {v:Value} {n:Nat} {e:TypeId} {fs:List FuL} {y:FuL} (hy:fs[k]?=some y)
  (h:w.ownsRow base e 3 v n (((fs.flatMap FuL.cs).set (k*3+1) (.slice none 0 0)).set (k*3+2) (.slice (some ⟨q,0,none⟩) 2 2))):w.ownsRow base e 3 v n ((fs.set k (stopFu y q)).flatMap FuL.cs):=by
 have hk:=(List.getElem?_eq_some_iff.1 hy).1
 have h1:(fs.flatMap FuL.cs).set (k*3+1) (.slice none 0 0)=(fs.set k ⟨y.sig,⟨noSl,y.bd.l⟩⟩).flatMap FuL.cs :=
  flatMap_set (dec:=FuL.cs) (fun _=>rfl) fs k 1 _ ⟨y.sig,⟨noSl,y.bd.l⟩⟩ _ hy (by omega) rfl
 have h2:((fs.set k ⟨y.sig,⟨noSl,y.bd.l⟩⟩).flatMap FuL.cs).set (k*3+2) (.slice (some ⟨q,0,none⟩) 2 2)=((fs.set k ⟨y.sig,⟨noSl,y.bd.l⟩⟩).set k (stopFu y q)).flatMap FuL.cs :=
  flatMap_set (dec:=FuL.cs) (fun _=>rfl) _ k 2 ⟨y.sig,⟨noSl,y.bd.l⟩⟩ (stopFu y q) _ (by rw[List.getElem?_set_self hk]) (by omega) rfl
 rw[h1,h2,List.set_set]at h
 exact h
end Go.Proofs.YtmekgpdfiimofaaGreatDoor
