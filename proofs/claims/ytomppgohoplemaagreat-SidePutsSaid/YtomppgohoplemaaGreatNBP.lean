import Derived.Test.YtomppgohoplemaaGreatNBO
import Derived.Test.YtomppgohoplemaaGreatNAF
import Derived.Test.YtomppgohoplemaaGreatNAU
set_option linter.unusedVariables false
namespace Go.Proofs.YtomppgohoplemaaGreat
open Go.RowKit Go.Maps
theorem below_ndr {n q:Nat} {a b:World} (h:Below n (a.drewN q) b):Below n a b:=⟨h.os,h.tape,h.output,h.size,h.block⟩
theorem wrap_add1 {i:Nat} (h:i≤1000000):IntKind.i64.wrap ((i:Int)+1)=(i:Int)+1:=by
 rw[IntWalk.i64_in _ (by omega)]
set_option maxRecDepth 100000 in
set_option maxHeartbeats 3200000 in
theorem jump_in (m:MkS) (ar:Sl Spn) (k i e3 h:Nat) (e2:Int) (y:XL) (w:World) (hm:Hid (MkIn w m)) (har:Hid (Row w 3 spC ar)) (hk:ar.l[k]?=some ((i:Int),e2,(e3:Int))) (hy:m.l.l[i]?=some y) (hh:m.hs.l[i]?=some h) (hb:h≤1000000000) (hn:m.l.l.length≤1000000) (hlen:m.hs.l.length≤1000000) (he3:e3≤1000000) (hal:ar.l.length≤1000000) :
  Calls Tryz.prog 37 #[.pointer (some ⟨m.mb,0,none⟩),.slice ar.at_ ar.l.length ar.cap,.int .i64 (k:Int)] w fun e w'=>e=.returned (jV (if y.code=3 then ⟨i+1,0,if y.code=4 then h-1 else h⟩else ⟨e3+1,if y.a=64 then 0 else 1,if y.code=4 then h-1 else h⟩))∧Hid (Below w.heap.size w w'):=by
 obtain⟨W1,hW1,hb1,hx1,hs1⟩:=box_new w #[.int .i64 0,.int .i64 0,.int .i64 0] 55
 obtain⟨W7,hW7,hb2,hx2,hs2⟩:=box_new W1 #[.int .i64 (i:Int),.int .i64 e2,.int .i64 (e3:Int)] 100
 obtain⟨bg,hbg⟩:∃bg,w.heap.size=bg:=⟨_,rfl⟩
 obtain⟨bx,hbx⟩:∃bx,W1.heap.size=bx:=⟨_,rfl⟩
 rw[hbg]at hx1 hs1
 rw[hbx]at hx2 hs2
 have hb7:Below w.heap.size w W7:=hb1.trans (hb2.mono (by omega))
 have hx7:=(hb2.block bg (by omega)).trans hx1
 have hm7:=hm.out.below hb7
 have hklt:k<ar.l.length:=(List.getElem?_eq_some_iff.1 hk).1
 have hkl:(k:Int)<(ar.l.length:Int):=by omega
 have hi1:i<m.l.l.length:=(List.getElem?_eq_some_iff.1 hy).1
 have hi3:(i:Int)<(m.l.l.length:Int):=by omega
 obtain⟨aa,haa,_,k0,kj⟩:=(har.out.below hb1).at_ (fun _=>rfl) hk
 have s0:W1.cell? (aa.add (k*3))=some (.int .i64 (i:Int)):=k0 _ rfl (by omega)
 have s1:W1.cell? ⟨(aa.add (k*3)).block,(aa.add (k*3)).off+1,none⟩=some (.int .i64 e2):=kj 1 (by omega) (by omega) _ rfl
 have s2:W1.cell? ⟨(aa.add (k*3)).block,(aa.add (k*3)).off+2,none⟩=some (.int .i64 (e3:Int)):=kj 2 (by omega) (by omega) _ rfl
 obtain⟨ad,ha,_,g0,_⟩:=hm7.l.at_ (fun _=>rfl) hy
 have y0:W7.cell? (ad.add (i*5))=some (.int .i64 y.code):=g0 _ rfl (by omega)
 have c0:W7.cell? ⟨m.mb,0,none⟩=some m.l.val:=cell_blk hm7.blk 0
 unfold Sl.val at c0
 rw[ha]at c0
 have d0:W7.cell? ⟨bx,0,none⟩=some (.int .i64 (i:Int)):=cell_blk hx2 0
 have HXX:Hid (∀V,Below W7.heap.size W7 V→V.cell? ⟨bx,0,none⟩=some (.int .i64 (i:Int))∧V.cell? ⟨bx,1,none⟩=some (.int .i64 e2)∧V.cell? ⟨bx,2,none⟩=some (.int .i64 (e3:Int))):=fun V hV=>by
  have hq:=(hV.block bx (by omega)).trans hx2
  exact⟨cell_blk hq 0,cell_blk hq 1,cell_blk hq 2⟩
 have hBL:=fun (V:World) (hV:Below W7.heap.size W7 V)=>below_any m i y h e2 (e3:Int) V (hide (hm7.below hV)) hy hh hb hn hlen
 have hMN:=fun (V:World) (hV:Below W7.heap.size W7 V)=>many_any m i y e2 (e3:Int) V (hide (hm7.below hV)) hy hn
 obtain⟨hB,hhB⟩:∃hB,(if y.code=4 then h-1 else h)=hB:=⟨_,rfl⟩
 obtain⟨mN,hmN⟩:∃mN,(if y.a=64 then 0 else 1)=mN:=⟨_,rfl⟩
 rw[hhB]at hBL ⊢
 rw[hmN]at hMN ⊢
 obtain⟨R,hR⟩:∃R,(if y.code=3 then (⟨i+1,0,hB⟩:Jmp)else ⟨e3+1,mN,hB⟩)=R:=⟨_,rfl⟩
 rw[hR]
 have HBL:=hide hBL;have HMN:=hide hMN;have HR:=hide hR
 rw[haa]
 have HW1:=hide hW1;have HW7:=hide hW7;have HB7:Hid (Below w.heap.size w W7):=hb7;have HX7:=hide hx7;have HBG:=hide hbg;have HBX:=hide hbx
 clear hW1 hW7 hb1 hb2 hx1 hx2 hs1 hs2 hbg hbx hb7 hx7 hm7 k0 kj g0 haa ha hBL hMN hk hy hh hklt hi1 hhB hmN hR
 go_enter Tryz.func37,Tryz.ntmps37
 go_upto_region 1 with fail
 rw[HW1.out,HBG.out]
 go_upto_region 4 with fail
 rw[HW7.out,HBX.out]
 by_cases h3:y.code=3
 ·have hR:=HR.out
  rw[if_pos h3]at hR
  subst hR
  have h3b:(y.code==3)=true:=by simpa using h3
  clear h3
  go_wp2_with fail
  go_quiet (fail)
  go_upto_region 5 with fail
  refine wp_region_last (l:=[_,_,_,_,_,_,_]) (o:=_) grew_ext (factsOf [fun yy _=>yy=.pointer (some ⟨bx,0,none⟩),
   fun yy _=>yy=.int .i64 (i:Int),
   fun yy _=>yy=.int .i64 ((i:Int)+1),
   fun yy _=>yy=.pointer (some ⟨m.mb,0,none⟩),
   fun yy _=>yy=.agg #[.int .i64 (i:Int),.int .i64 e2,.int .i64 (e3:Int)],
   fun yy _=>yy=.int .i64 (hB:Int),
   fun yy _=>yy=.agg #[.int .i64 ((i:Int)+1),.int .i64 0,.int .i64 (hB:Int)]]) (by kernel_rfl) (by kernel_rfl) (by kernel_rfl) ?_ ?_
  ·refine⟨?_,?_,?_,?_,?_,?_,?_,trivial⟩
   ·refine⟨fun ρ W3 hk=>?_⟩
    have o7:ρ (.tmp 7)=.pointer (some ⟨bx,0,none⟩):=hk.old 7 (by decide)
    exact OpOut.fieldAddr (x:=.tmp 7) rfl o7 (by go_simp) ⟨Below.refl _ _,rfl⟩
   ·refine⟨fun ρ W3 hk=>?_⟩
    have h0:=(hk.fact 0 36 (by decide) rfl).pure
    obtain⟨q0,q1,q2⟩:=HXX.out W3 (below_ndr hk.below)
    exact OpOut.load (x:=.tmp 36) rfl h0 (by go_simp) ⟨Below.refl _ _,rfl⟩
   ·refine⟨fun ρ W3 hk=>?_⟩
    have h1:=(hk.fact 1 37 (by decide) rfl).pure
    exact OpOut.bin (x:=.tmp 37) (y:=.const (.int .i64 1)) (v:=.int .i64 ((i:Int)+1)) rfl (by rw[h1,hk.const];go_simp) (by rw[h1,hk.const];go_simp;exact wrap_add1 (by omega)) ⟨Below.refl _ _,rfl⟩
   ·refine⟨fun ρ W3 hk=>?_⟩
    have o0:ρ (.tmp 0)=.pointer (some ⟨m.mb,0,none⟩):=hk.old 0 (by decide)
    exact OpOut.move (.tmp 0) rfl ⟨Below.refl _ _,o0⟩
   ·refine⟨fun ρ W3 hk=>?_⟩
    have o7:ρ (.tmp 7)=.pointer (some ⟨bx,0,none⟩):=hk.old 7 (by decide)
    obtain⟨q0,q1,q2⟩:=HXX.out W3 (below_ndr hk.below)
    exact OpOut.load (x:=.tmp 7) rfl o7 (by go_simp) ⟨Below.refl _ _,rfl⟩
   ·refine⟨fun ρ W3 hk=>?_⟩
    have h3:=(hk.fact 3 39 (by decide) rfl).pure
    have h4:=(hk.fact 4 40 (by decide) rfl).pure
    refine OpOut.fn (args:=#[.pointer (some ⟨m.mb,0,none⟩),.agg #[.int .i64 (i:Int),.int .i64 e2,.int .i64 (e3:Int)]]) rfl (hk.func _) (by simp[h3,h4]) Tryz.func49 (by kernel_rfl) rfl ?_
    refine(HBL.out W3 (below_ndr hk.below)).mono ?_;rintro e w5 ⟨rfl,hb5⟩
    exact⟨_,rfl,hb5.out,rfl⟩
   ·refine⟨fun ρ W3 hk=>?_⟩
    have h2:=(hk.fact 2 38 (by decide) rfl).pure
    have h5:=(hk.fact 5 41 (by decide) rfl).pure
    exact OpOut.build (us:=#[(0,.int .i64 ((i:Int)+1)),(1,.int .i64 0),(2,.int .i64 (hB:Int))]) rfl (by simp[h2,h5,hk.const]) (by go_simp) ⟨Below.refl _ _,rfl⟩
  intro vs W8 hb8 hf
  have h6:=(hf 6 (by decide)).pure
  clear hf
  simp only[fillL]
  rw[h6]
  generalize vs 0=v0,vs 1=v1,vs 2=v2,vs 3=v3,vs 4=v4,vs 5=v5
  have HB8:Hid (Below w.heap.size w W8):=HB7.out.trans ((below_ndr hb8).mono HB7.out.size)
  have hk8:=(hb8.block bg (blk_lt HX7.out)).trans HX7.out
  have p0:=cell_blk hk8 0;have p1:=cell_blk hk8 1;have p2:=cell_blk hk8 2
  have f0:=frozen_blk hk8 0;have f1:=frozen_blk hk8 1;have f2:=frozen_blk hk8 2
  simp at p0 p1 p2
  obtain⟨W9,hW9,hk9,ho9⟩:=store3J hk8 (.int .i64 ((i:Int)+1)) (.int .i64 0) (.int .i64 (hB:Int))
  have t0:=cell_blk hk9 0;have t1:=cell_blk hk9 1;have t2:=cell_blk hk9 2
  simp at t0 t1 t2
  have HB9:Hid (Below w.heap.size w W9):=HB8.out.trans (ho9.below HB8.out.size (by simp;exact Nat.le_of_eq HBG.out))
  have HW9:=hide hW9
  clear hk8 hW9 hk9 ho9 hb8
  go_wp2_with fail
  rw[HW9.out]
  refine bodyPost_ret (v:=jV ⟨i+1,0,hB⟩) (by unfold jV;simp[results,Tryz.results37,go_sem,t0,t1,t2]) rfl ?_
  exact⟨rfl,HB9⟩
 ·have hR:=HR.out
  rw[if_neg h3]at hR
  subst hR
  have h3b:(y.code==3)=false:=by simpa using h3
  clear h3
  go_wp2_with fail
  go_quiet (fail)
  go_upto_region 6 with fail
  refine wp_region_last (l:=[_,_,_,_,_,_,_,_,_,_]) (o:=_) grew_ext (factsOf [fun yy _=>yy=.pointer (some ⟨bx,2,none⟩),
   fun yy _=>yy=.int .i64 (e3:Int),
   fun yy _=>yy=.int .i64 ((e3:Int)+1),
   fun yy _=>yy=.pointer (some ⟨m.mb,0,none⟩),
   fun yy _=>yy=.agg #[.int .i64 (i:Int),.int .i64 e2,.int .i64 (e3:Int)],
   fun yy _=>yy=.int .i64 (mN:Int),
   fun yy _=>yy=.pointer (some ⟨m.mb,0,none⟩),
   fun yy _=>yy=.agg #[.int .i64 (i:Int),.int .i64 e2,.int .i64 (e3:Int)],
   fun yy _=>yy=.int .i64 (hB:Int),
   fun yy _=>yy=.agg #[.int .i64 ((e3:Int)+1),.int .i64 (mN:Int),.int .i64 (hB:Int)]]) (by kernel_rfl) (by kernel_rfl) (by kernel_rfl) ?_ ?_
  ·refine⟨?_,?_,?_,?_,?_,?_,?_,?_,?_,?_,trivial⟩
   ·refine⟨fun ρ W3 hk=>?_⟩
    have o7:ρ (.tmp 7)=.pointer (some ⟨bx,0,none⟩):=hk.old 7 (by decide)
    exact OpOut.fieldAddr (x:=.tmp 7) rfl o7 (by go_simp) ⟨Below.refl _ _,rfl⟩
   ·refine⟨fun ρ W3 hk=>?_⟩
    have h0:=(hk.fact 0 43 (by decide) rfl).pure
    obtain⟨q0,q1,q2⟩:=HXX.out W3 (below_ndr hk.below)
    exact OpOut.load (x:=.tmp 43) rfl h0 (by go_simp) ⟨Below.refl _ _,rfl⟩
   ·refine⟨fun ρ W3 hk=>?_⟩
    have h1:=(hk.fact 1 44 (by decide) rfl).pure
    exact OpOut.bin (x:=.tmp 44) (y:=.const (.int .i64 1)) (v:=.int .i64 ((e3:Int)+1)) rfl (by rw[h1,hk.const];go_simp) (by rw[h1,hk.const];go_simp;exact wrap_add1 (by omega)) ⟨Below.refl _ _,rfl⟩
   ·refine⟨fun ρ W3 hk=>?_⟩
    have o0:ρ (.tmp 0)=.pointer (some ⟨m.mb,0,none⟩):=hk.old 0 (by decide)
    exact OpOut.move (.tmp 0) rfl ⟨Below.refl _ _,o0⟩
   ·refine⟨fun ρ W3 hk=>?_⟩
    have o7:ρ (.tmp 7)=.pointer (some ⟨bx,0,none⟩):=hk.old 7 (by decide)
    obtain⟨q0,q1,q2⟩:=HXX.out W3 (below_ndr hk.below)
    exact OpOut.load (x:=.tmp 7) rfl o7 (by go_simp) ⟨Below.refl _ _,rfl⟩
   ·refine⟨fun ρ W3 hk=>?_⟩
    have h3:=(hk.fact 3 46 (by decide) rfl).pure
    have h4:=(hk.fact 4 47 (by decide) rfl).pure
    refine OpOut.fn (args:=#[.pointer (some ⟨m.mb,0,none⟩),.agg #[.int .i64 (i:Int),.int .i64 e2,.int .i64 (e3:Int)]]) rfl (hk.func _) (by simp[h3,h4]) Tryz.func50 (by kernel_rfl) rfl ?_
    refine(HMN.out W3 (below_ndr hk.below)).mono ?_;rintro e w5 ⟨rfl,hb5⟩
    exact⟨_,rfl,hb5.out,rfl⟩
   ·refine⟨fun ρ W3 hk=>?_⟩
    have o0:ρ (.tmp 0)=.pointer (some ⟨m.mb,0,none⟩):=hk.old 0 (by decide)
    exact OpOut.move (.tmp 0) rfl ⟨Below.refl _ _,o0⟩
   ·refine⟨fun ρ W3 hk=>?_⟩
    have o7:ρ (.tmp 7)=.pointer (some ⟨bx,0,none⟩):=hk.old 7 (by decide)
    obtain⟨q0,q1,q2⟩:=HXX.out W3 (below_ndr hk.below)
    exact OpOut.load (x:=.tmp 7) rfl o7 (by go_simp) ⟨Below.refl _ _,rfl⟩
   ·refine⟨fun ρ W3 hk=>?_⟩
    have h6:=(hk.fact 6 49 (by decide) rfl).pure
    have h7:=(hk.fact 7 50 (by decide) rfl).pure
    refine OpOut.fn (args:=#[.pointer (some ⟨m.mb,0,none⟩),.agg #[.int .i64 (i:Int),.int .i64 e2,.int .i64 (e3:Int)]]) rfl (hk.func _) (by simp[h6,h7]) Tryz.func49 (by kernel_rfl) rfl ?_
    refine(HBL.out W3 (below_ndr hk.below)).mono ?_;rintro e w5 ⟨rfl,hb5⟩
    exact⟨_,rfl,hb5.out,rfl⟩
   ·refine⟨fun ρ W3 hk=>?_⟩
    have h2:=(hk.fact 2 45 (by decide) rfl).pure
    have h5:=(hk.fact 5 48 (by decide) rfl).pure
    have h8:=(hk.fact 8 51 (by decide) rfl).pure
    exact OpOut.build (us:=#[(0,.int .i64 ((e3:Int)+1)),(1,.int .i64 (mN:Int)),(2,.int .i64 (hB:Int))]) rfl (by simp[h2,h5,h8]) (by go_simp) ⟨Below.refl _ _,rfl⟩
  intro vs W8 hb8 hf
  have h9:=(hf 9 (by decide)).pure
  clear hf
  simp only[fillL]
  rw[h9]
  generalize vs 0=v0,vs 1=v1,vs 2=v2,vs 3=v3,vs 4=v4,vs 5=v5,vs 6=v6,vs 7=v7,vs 8=v8
  have HB8:Hid (Below w.heap.size w W8):=HB7.out.trans ((below_ndr hb8).mono HB7.out.size)
  have hk8:=(hb8.block bg (blk_lt HX7.out)).trans HX7.out
  have p0:=cell_blk hk8 0;have p1:=cell_blk hk8 1;have p2:=cell_blk hk8 2
  have f0:=frozen_blk hk8 0;have f1:=frozen_blk hk8 1;have f2:=frozen_blk hk8 2
  simp at p0 p1 p2
  obtain⟨W9,hW9,hk9,ho9⟩:=store3J hk8 (.int .i64 ((e3:Int)+1)) (.int .i64 (mN:Int)) (.int .i64 (hB:Int))
  have t0:=cell_blk hk9 0;have t1:=cell_blk hk9 1;have t2:=cell_blk hk9 2
  simp at t0 t1 t2
  have HB9:Hid (Below w.heap.size w W9):=HB8.out.trans (ho9.below HB8.out.size (by simp;exact Nat.le_of_eq HBG.out))
  have HW9:=hide hW9
  clear hk8 hW9 hk9 ho9 hb8
  go_wp2_with fail
  rw[HW9.out]
  refine bodyPost_ret (v:=jV ⟨e3+1,mN,hB⟩) (by unfold jV;simp[results,Tryz.results37,go_sem,t0,t1,t2]) rfl ?_
  exact⟨rfl,HB9⟩
theorem jump_any (m:MkS) (ok:Hid (MkOk m)) (ar:Sl Spn) (k:Nat) (w:World) (hm:Hid (MkIn w m)) (har:Hid (Row w 3 spC ar)) (hsub:∀x∈ar.l,x∈m.sp.l) (hal:ar.l.length≤1000000) (hk:k≤4294967295) :
  Calls Tryz.prog 37 #[.pointer (some ⟨m.mb,0,none⟩),.slice ar.at_ ar.l.length ar.cap,.int .i64 (k:Int)] w fun e w'=>e=.returned (jV (jumpP m.e.l m.hs.l m.res ar.l k))∧Hid (Below w.heap.size w w'):=by
 cases hx:ar.l[k]? with
 | none =>
  have hl:ar.l.length≤k:=List.getElem?_eq_none_iff.1 hx
  have hj:jumpP m.e.l m.hs.l m.res ar.l k=⟨m.l.l.length,m.res,0⟩:=by
   unfold jumpP
   rw[hx]
   simp[MkS.e]
  rw[hj]
  exact jump_out m ar.at_ ar.l.length ar.cap k w hm hl hk
 | some x =>
  obtain⟨x1,x2,x3⟩:=x
  have hmem:=hsub _ (List.mem_of_getElem? hx)
  obtain⟨q1,q2,q3,_⟩:=ok.out.sp _ hmem
  simp only at q1 q2 q3
  obtain⟨i,rfl⟩:∃i:Nat,x1=(i:Int):=⟨x1.toNat,by omega⟩
  obtain⟨e3,rfl⟩:∃e3:Nat,x3=(e3:Int):=⟨x3.toNat,by omega⟩
  have hn:=ok.out.n
  have hl:=ok.out.hl
  obtain⟨y,hy⟩:∃y,m.l.l[i]?=some y:=⟨_,List.getElem?_eq_getElem (by omega)⟩
  obtain⟨h,hh⟩:∃h,m.hs.l[i]?=some h:=⟨_,List.getElem?_eq_getElem (by omega)⟩
  have hb:=ok.out.hb h (List.mem_of_getElem? hh)
  have hj:jumpP m.e.l m.hs.l m.res ar.l k=if y.code=3 then ⟨i+1,0,if y.code=4 then h-1 else h⟩else ⟨e3+1,if y.a=64 then 0 else 1,if y.code=4 then h-1 else h⟩:=by
   unfold jumpP
   rw[hx]
   simp only[Int.toNat_natCast]
   unfold belowN manyN
   rw[xAt_some hy,List.getD_eq_getElem?_getD,hh]
   rfl
  rw[hj]
  exact jump_in m ar k i e3 h x2 y w hm har hx hy hh hb hn (by omega) (by omega) hal
end Go.Proofs.YtomppgohoplemaaGreat
namespace Go.Proofs.YtomppgohoplemaaGreat
open Go.RowKit Go.Maps
theorem row_of_own {α:Type} {w:World} {base:Nat} {e:TypeId} {size n c:Nat} {A:Option Addr} {l:List α} {dec:α→List Value} (h:w.ownsRow base e size (.slice A n c) n (l.flatMap dec)) (hl:n=l.length):Row w size dec ⟨A,c,l⟩:=by
 subst hl
 obtain⟨A2,c2,hv,h1,h2⟩:=own_form h
 injection hv with e1 _ e3
 subst e1;subst e3
 exact⟨Reads.of_own h,h1,h2⟩
def LabsP (ls:List Nat) (w:World) (e:Ending) (w':World):Prop :=
 ∃(B:Option Addr) (c:Nat),e=.returned (.slice B ls.length c)∧Hid (Row w' 1 uD ⟨B,c,ls⟩)∧Hid (∀ad,B=some ad→w.heap.size≤ad.block)∧Hid (Below w.heap.size w w')
theorem u64_elemS:IsElem Tryz.prog 67 66 1 8:=IsElem.mk' Tryz.underlying67 (z:=.int .u64 0) (by kernel_rfl) rfl (by omega)
theorem uD_one (l:List Nat):∀u∈l.flatMap uD,u.oneCell'=true:=by
 intro u hu
 obtain⟨b,_,hb⟩:=List.mem_flatMap.1 hu
 unfold uD at hb
 rw[List.mem_singleton]at hb
 subst hb
 rfl
set_option maxRecDepth 100000 in
set_option maxHeartbeats 800000 in
theorem cloneU_any (A:Option Addr) (c n:Nat) (rs:List Nat) (w:World) (hr:Hid (Reads w w.heap.size 1 A n (rs.flatMap uD))) (hl:n≤1000000) :
  Calls Tryz.prog 48 #[.slice A n c] w fun e w'=>∃A1 c1,e=.returned (.slice A1 n c1)∧Hid (w'.ownsRow w.heap.size 66 1 (.slice A1 n c1) n (rs.flatMap uD))∧Hid (Below w.heap.size w w'):=by
 cases A with
 | none =>
  have hn0:n=0:=by
   rcases Nat.eq_zero_or_pos n with h|h
   ·exact h
   ·obtain⟨ad,h2,_⟩:=hr.out.2 h
    cases h2
  subst hn0
  have h0:rs.flatMap uD=[]:=List.eq_nil_of_length_eq_zero (by simpa using hr.out.1)
  rw[h0]
  clear hr h0
  have q22:=fun (w:World) (a:Option Addr) (n c n' c':Nat)=>Lib.run_eql_slice_nil (P:=Tryz.prog) w 67 66 a n c n' c' Tryz.underlying67
  go_enter Tryz.func48,Tryz.ntmps48
  go_wp2_with fail
  go_ret
  exact⟨none,0,rfl,own_nil _ _ _ _,Below.refl _ _⟩
 | some ad =>
  have hroom:Room 0 n 8:=room_of (by omega) (by omega)
  have hone:=hide (uD_one rs)
  obtain⟨W,hW⟩:∃W,w.alloc (.cells #[] 66)=W:=⟨_,rfl⟩
  have hb:Below w.heap.size w W:=by rw[←hW];exact(Below.refl _ _).alloc (Nat.le_refl _) _
  have hh:W.heap[w.heap.size]?=some (.cells #[] 66 (0,0)):=by rw[←hW];exact heap_alloc_new w _
  have hown:Hid (W.ownsRow w.heap.size 66 1 (.slice (some ⟨w.heap.size,0,none⟩) 0 0) 0 []):=⟨by simp,.inr ⟨w.heap.size,0,#[],rfl,Nat.le_refl _,hh,Nat.le_refl _,by unfold maxLen;omega,by simp,by simp⟩⟩
  have hrW:Hid (Reads W w.heap.size 1 (some ad) n (rs.flatMap uD)):=hr.out.below hb
  have hsz:w.heap.size≤W.heap.size:=hb.size
  have HB:=hide hb;have HW:=hide hW
  clear hb hW hh hr
  have q22:=fun (w:World) (a:Option Addr) (n c n' c':Nat)=>Lib.run_eql_slice_nil (P:=Tryz.prog) w 67 66 a n c n' c' Tryz.underlying67
  go_enter Tryz.func48,Tryz.ntmps48
  go_wp2_with (at_builtin;rw[HW.out];refine wpList_append_any rfl _ _ rfl w.heap.size u64_elemS (.slice (some ⟨w.heap.size,0,none⟩) 0 0) 0 [] rfl hown.out w.heap.size (some ad) n c (rs.flatMap uD) rfl hrW.out hone.out hroom hsz ?_;intro v' w' ho' hg')
  rw[Nat.zero_add,List.nil_append]at ho'
  obtain⟨A2,c2,hv2,hc2,_⟩:=own_form ho'
  subst hv2
  have HO':=hide ho'
  have HG':=hide hg'
  clear ho' hg' hc2
  go_wp2_with fail
  go_ret
  exact⟨A2,c2,rfl,HO',HB.out.grown HG'.out.by_ hsz (own_ge hown.out)⟩
theorem readsU_one {W:World} {q:Nat} {v:Value} {t:TypeId} (h:W.heap[q]?=some (.cells #[v] t (0,0))):Reads W W.heap.size 1 (some ⟨q,0,none⟩) 1 [v] :=
 ⟨by simp,fun _=>⟨_,rfl,blk_lt h,fun j u hu=>by
  match j,hu with
  | 0,hu=>simp at hu;subst hu;exact cell_blk h 0⟩⟩
set_option maxRecDepth 100000 in
set_option maxHeartbeats 3200000 in
theorem labels_any (y:XL) (w:World) (h:Hid (Row w 1 uD y.l)) (hl:y.l.l.length≤1000000) :
  Calls Tryz.prog 36 #[.agg #[.int .i64 y.code,.int .u64 (y.a:Int),.int .u64 (y.b:Int),.int .i64 y.al,.slice y.l.at_ y.l.l.length y.l.cap]] w (LabsP (labelsX y.x) w):=by
 obtain⟨W,hW,hb1,hx1,hs1⟩:=box_new w #[.int .i64 y.code,.int .u64 (y.a:Int),.int .u64 (y.b:Int),.int .i64 y.al,.slice y.l.at_ y.l.l.length y.l.cap] 131
 obtain⟨bg,hbg⟩:∃bg,w.heap.size=bg:=⟨_,rfl⟩
 rw[hbg]at hx1 hs1
 have d0:W.cell? ⟨bg,0,none⟩=some (.int .i64 y.code):=cell_blk hx1 0
 have d1:W.cell? ⟨bg,1,none⟩=some (.int .u64 (y.a:Int)):=cell_blk hx1 1
 have hrow:=h.out.below hb1
 have HW:=hide hW;have HB:Hid (Below w.heap.size w W):=hb1;have HBG:=hide hbg;have HX:=hide hx1
 obtain⟨W2,hW2,hb2,hx2,hs2⟩:=box_new W #[.int .u64 (y.a:Int)] 66
 rw[hs1]at hx2 hs2
 have HB2:Hid (Below w.heap.size w W2):=hb1.trans (hb2.mono (by omega))
 have hr2:Row W2 1 uD ⟨some ⟨bg+1,0,none⟩,1,[y.a]⟩:=row_of_own (base:=0) (e:=66) (n:=1) ⟨by simp[uD],.inr ⟨bg+1,1,_,rfl,Nat.zero_le _,hx2,Nat.le_refl _,by unfold maxLen;omega,by simp,by simp[uD,U]⟩⟩ rfl
 have HW2:=hide hW2;have HR2:=hide hr2;have HS1:=hide hs1
 have HC:=hide (fun (V:World) (hV:Below W.heap.size W V)=>cloneU_any y.l.at_ y.l.cap y.l.l.length y.l.l V (hide (hrow.below hV).r) hl)
 by_cases h1:y.code=12
 ·have hls:labelsX y.x=[y.a]:=by unfold labelsX;rw[if_pos (.inl h1)];rfl
  rw[hls]
  rw[h1]at d0
  clear hW hb1 hx1 hs1 hW2 hb2 hx2 hs2 hr2 hbg hrow h1 hls HC
  go_enter Tryz.func36,Tryz.ntmps36
  go_upto_region 1 with fail
  rw[HW.out,HBG.out]
  go_wp2_with fail
  rw[HW2.out,HS1.out]
  go_ret
  exact⟨_,_,rfl,HR2,fun ad e=>(by injection e with e;subst e;show w.heap.size≤bg+1;rw[HBG.out];omega),HB2⟩
 by_cases h2:y.code=13
 ·have hls:labelsX y.x=[y.a]:=by unfold labelsX;rw[if_pos (.inr h2)];rfl
  rw[hls]
  rw[h2]at d0
  clear hW hb1 hx1 hs1 hW2 hb2 hx2 hs2 hr2 hbg hrow h1 h2 hls HC
  go_enter Tryz.func36,Tryz.ntmps36
  go_upto_region 1 with fail
  rw[HW.out,HBG.out]
  go_wp2_with fail
  rw[HW2.out,HS1.out]
  go_ret
  exact⟨_,_,rfl,HR2,fun ad e=>(by injection e with e;subst e;show w.heap.size≤bg+1;rw[HBG.out];omega),HB2⟩
 have e1:(y.code==12)=false:=by simpa using h1
 have e2:(y.code==13)=false:=by simpa using h2
 by_cases h3:y.code=14
 ·have hls:labelsX y.x=y.l.l++[y.a]:=by
   unfold labelsX
   rw[if_neg (by rintro(h|h)<;>contradiction),if_pos (show y.x.code=14 from h3)]
   rfl
  rw[hls]
  rw[h3]at d0
  have d4:W.cell? ⟨bg,4,none⟩=some (.slice y.l.at_ y.l.l.length y.l.cap):=cell_blk hx1 4
  have HXX:Hid (∀V,Below W.heap.size W V→V.cell? ⟨bg,0,none⟩=some (.int .i64 14)∧V.cell? ⟨bg,1,none⟩=some (.int .u64 (y.a:Int))∧V.cell? ⟨bg,4,none⟩=some (.slice y.l.at_ y.l.l.length y.l.cap)):=fun V hV=>by
   have hq:=(hV.block bg (blk_lt hx1)).trans hx1
   exact⟨by rw[←h3];exact cell_blk hq 0,cell_blk hq 1,cell_blk hq 4⟩
  have hroom:Room y.l.l.length 1 8:=room_of (by omega) (by omega)
  clear hW hb1 hx1 hs1 hW2 hb2 hx2 hs2 hr2 hbg hrow h1 h2 h3 e1 e2 hls HW2 HR2 HS1 HB2
  go_enter Tryz.func36,Tryz.ntmps36
  go_upto_region 1 with fail
  rw[HW.out,HBG.out]
  go_upto_region 6 with fail
  refine wp_region_two (l:=[_,_,_,_,_,_]) (o1:=_) (o2:=_) grew_ext grew_ext (fun _ _ h=>h) [2] 2 (factsOf [fun yy _=>yy=.pointer (some ⟨bg,4,none⟩),fun yy _=>yy=.slice y.l.at_ y.l.l.length y.l.cap,fun yy WW=>∃B5 c5,yy=.slice B5 y.l.l.length c5∧WW.ownsRow W.heap.size 66 1 (.slice B5 y.l.l.length c5) y.l.l.length (y.l.l.flatMap uD),fun yy _=>yy=.pointer (some ⟨bg,1,none⟩),fun yy _=>yy=.int .u64 (y.a:Int),fun yy WW=>∃q:Nat,yy=.slice (some ⟨q,0,none⟩) 1 1∧WW.heap[q]?=some (.cells #[.int .u64 (y.a:Int)] 66 (0,0))]) (by kernel_rfl) (by kernel_rfl) (by kernel_rfl) (by kernel_rfl) (by kernel_rfl) (by kernel_rfl) (by kernel_rfl) (by decide) (by kernel_rfl) (by decide) (by kernel_rfl) ?_ ?_ ?_
  ·intro i v w hd hF
   match i with
   | 0=>cases hd
   | 1=>cases hd
   | 2=>cases hd
   | 3=>cases hd
   | 4=>cases hd
   | 5=>cases hd
   | i+6=>cases hd
  ·refine⟨?_,?_,?_,?_,?_,?_,trivial⟩
   ·refine ObD.plain (by decide) rfl fun ρ W3 hk=>?_
    have o1:ρ (.tmp 1)=.pointer (some ⟨bg,0,none⟩):=hk.old 1 (by decide)
    exact OpOut.fieldAddr (x:=.tmp 1) rfl o1 (by go_simp) ⟨Below.refl _ _,rfl⟩
   ·refine ObD.plain (by decide) rfl fun ρ W3 hk=>?_
    have h0:=(hk.fact 0 13 (by decide) rfl).pure
    obtain⟨q0,q1,q4⟩:=HXX.out W3 hk.below
    exact OpOut.load (x:=.tmp 13) rfl h0 (by go_simp) ⟨Below.refl _ _,rfl⟩
   ·refine ObD.first rfl rfl fun ρ W3 hk hk1=>?_
    have h1:=(hk1.fact 1 14 (by decide) rfl).pure
    refine OpOut.fn (args:=#[.slice y.l.at_ y.l.l.length y.l.cap]) rfl (hk1.func _) (by simp[h1]) Tryz.func48 (by kernel_rfl) rfl ?_
    refine(HC.out W3 hk1.below).mono ?_;rintro e w5 ⟨B5,c5,rfl,ho5,hb5⟩
    exact⟨_,rfl,hb5.out,B5,c5,rfl,own_base ho5.out (fun q hq=>by have:=own_ge ho5.out q hq;have:=hk1.below.size;omega)⟩
   ·refine ObD.plain (by decide) rfl fun ρ W3 hk=>?_
    have o1:ρ (.tmp 1)=.pointer (some ⟨bg,0,none⟩):=hk.old 1 (by decide)
    exact OpOut.fieldAddr (x:=.tmp 1) rfl o1 (by go_simp) ⟨Below.refl _ _,rfl⟩
   ·refine ObD.plain (by decide) rfl fun ρ W3 hk=>?_
    have h3:=(hk.fact 3 16 (by decide) rfl).pure
    obtain⟨q0,q1,q4⟩:=HXX.out W3 hk.below
    exact OpOut.load (x:=.tmp 16) rfl h3 (by go_simp) ⟨Below.refl _ _,rfl⟩
   ·refine ObD.plain (by decide) rfl fun ρ W3 hk=>?_
    have h4:=(hk.fact 4 17 (by decide) rfl).pure
    exact OpOut.buildSlice (us:=#[(0,.int .u64 (y.a:Int))]) rfl (by simp[h4]) (by go_simp) ⟨(Below.refl _ _).alloc (Nat.le_refl _) _,W3.heap.size,rfl,heap_alloc_new W3 _⟩
  ·intro vs W4 hb4 hf hlast
   obtain⟨u2,hu2,B5,c5,h2,ho2⟩:=hf 2 (by decide)
   obtain⟨u5,hu5,q5,h5,hq5⟩:=hf 5 (by decide)
   have HO2:=hide (own_only3 (S:=[]) ho2 (Only.of_below hu2) (by simp))
   have hq:=(hu5.block q5 (blk_lt hq5)).trans hq5
   have hr4:Hid (Reads W4 W4.heap.size 1 (some ⟨q5,0,none⟩) 1 [.int .u64 (y.a:Int)]):=readsU_one hq
   have hsz4:W.heap.size≤W4.heap.size:=hb4.size
   have HB4:Hid (Below w.heap.size w W4):=HB.out.trans (hb4.mono HB.out.size)
   have HOG:=hide (own_ge HO2.out)
   have HBS:=hide HB.out.size
   clear hf hlast hu2 ho2 hu5 hq5 hq hb4
   simp only[fillL]
   rw[h2,h5]
   generalize vs 0=x0,vs 1=x1,vs 3=x3,vs 4=x4
   clear h2 h5
   go_frame
   refine wpList_append_any rfl (.tmp 15) (.tmp 18) rfl W.heap.size u64_elemS (.slice B5 y.l.l.length c5) y.l.l.length (y.l.l.flatMap uD) rfl HO2.out W4.heap.size (some ⟨q5,0,none⟩) 1 1 [.int .u64 (y.a:Int)] rfl hr4.out (by simp[Value.oneCell']) hroom hsz4 ?_
   intro v6 w6 ho6 hg6
   obtain⟨B6,c6,rfl,_,_⟩:=own_form ho6
   have hr6:Hid (Row w6 1 uD ⟨B6,c6,y.l.l++[y.a]⟩):=row_of_own (base:=W.heap.size) (e:=66) (n:=y.l.l.length+1) (own_cast ho6 rfl (by rw[List.flatMap_append];rfl)) (by simp)
   have hb6:Hid (Below w.heap.size w w6):=HB4.out.grown hg6.by_ HB4.out.size (fun q hq=>by have:=HOG.out q hq;have:=HBS.out;omega)
   have HGE:Hid (∀ad,B6=some ad→w.heap.size≤ad.block):=fun ad e=>by
     subst e
     have:=own_ge ho6 ad.block rfl
     have:=HBS.out
     omega
   clear ho6 hg6
   refine tail_of_list rfl ?_
   go_wp2_with fail
   go_ret
   refine⟨B6,c6,by simp,hr6,HGE,hb6⟩
 ·have hls:labelsX y.x=[]:=by
   unfold labelsX
   rw[if_neg (by rintro(h|h)<;>contradiction),if_neg (show ¬y.x.code=14 from h3)]
  rw[hls]
  have e3:(y.code==14)=false:=by simpa using h3
  clear hW hb1 hx1 hs1 hW2 hb2 hx2 hs2 hr2 hbg hrow h1 h2 h3 hls HC
  go_enter Tryz.func36,Tryz.ntmps36
  go_upto_region 1 with fail
  rw[HW.out,HBG.out]
  go_wp2_with fail
  go_ret
  exact⟨none,0,rfl,⟨Reads.none_,Nat.le_refl _,by show 0≤maxLen;omega⟩,fun ad e=>(by cases e),HB⟩
end Go.Proofs.YtomppgohoplemaaGreat
