import Derived.Test.YtomppgohoplemaaGreatNBR
import Derived.Test.YtomppgohoplemaaGreatShelf
import Derived.Lib.Slices
import Derived.Test.YtomppgohoplemaaGreatRows
import Derived.RowKit
import Derived.Test.YtomppgohoplemaaGreatNAK
import Derived.Test.YtomppgohoplemaaGreatNAO
import Derived.Test.YtomppgohoplemaaGreatNAF
import Derived.Test.YtomppgohoplemaaGreatNAB
set_option linter.unusedVariables false
namespace Go.Proofs.YtomppgohoplemaaGreat
open Go.RowKit
theorem run_any (g:Nat) (m:MoL) (f:Int) (w:World) (ml:Int) (h:Hid (MoAt w g m)) (hz:Hid (MoSz m)) (hbz:Hid (∀y∈m.funcs.l,BdSz y.bd)) (hml:Hid (w.cell? ⟨0,0,none⟩=some (.int .i64 ml))) :
  Calls Tryz.prog 31 #[.pointer (some ⟨g,0,none⟩),.int .i64 f] w (RunP w (runP m.g f)):=by
 have hfl:m.g.funcs.length=m.funcs.l.length:=by simp[MoL.g]
 unfold runP
 by_cases hu:(unfitP m.g).2=0
 ·rw[if_neg (by omega)]
  by_cases hf:inB f m.funcs.l.length=true
  ·rw[hfl,if_pos hf]
   obtain⟨f1,f2⟩:=inB_iff.1 hf
   obtain⟨k,rfl⟩:∃k:Nat,f=(k:Int):=⟨f.toNat,by omega⟩
   have hk:k<m.funcs.l.length:=by omega
   have hy:m.funcs.l[k]?=some m.funcs.l[k]:=List.getElem?_eq_getElem hk
   have hg:m.g.funcs.getD (k:Int).toNat noFu=m.funcs.l[k].g:=getD_some (by simp[MoL.g,hk])
   rw[hg]
   exact run_in g m k m.funcs.l[k] w ml h hz hbz hu hy hml
  ·rw[hfl,if_neg hf]
   refine run_out g m f w h hz hu ?_
   have:¬(0≤f∧f<(m.funcs.l.length:Int)):=fun h=>hf (inB_iff.2 h)
   omega
 ·rw[if_pos hu]
  exact run_unfit g m f w h hz hu
def HeiP (w:World) (r:List Nat×Nat×Nat) (e:Ending) (w':World):Prop :=
 ∃A c,e=.returned (.tuple #[.slice A r.1.length c,.int .i64 (r.2.2:Int)])∧Hid (w'.ownsRow w.heap.size 3 1 (.slice A r.1.length c) r.1.length (r.1.map hD))∧Hid (Below w.heap.size w w')
set_option maxRecDepth 100000 in
theorem heights_of (pm:Value) (f:Int) (w:World) (r:List Nat×Nat×Nat) (h:Hid (Calls Tryz.prog 31 #[pm,.int .i64 f] w (RunP w r))) :
  Calls Tryz.prog 19 #[pm,.int .i64 f] w (HeiP w r):=by
 obtain⟨hs,at_,er⟩:=r
 go_enter Tryz.func19,Tryz.ntmps19
 go_wp2_with fail
 refine h.out.mono ?_;rintro e w1 ⟨A,c,rfl,ho,hb⟩
 go_wp2_with fail
 go_ret2
 exact⟨A,c,rfl,ho,hb⟩
section
variable {H:Type} {enc:TypeId×Value→H} {w:World}
set_option maxRecDepth 100000
end
def b8 (n:Int):UInt8:=UInt8.ofNat n.toNat
structure BdLen (mr mp ml:Nat) (y:BdL):Prop where
 loc:y.loc.l.length≤mp
 l:y.l.l.length≤mr
 lab:∀x∈y.l.l,x.l.l.length≤ml
structure MoSm (m:MoL):Prop where
 sigs:m.sigs.l.length≤60
 sig:∀x∈m.sigs.l,x.p.l.length+x.r.l.length≤60
 imps:m.imps.l.length≤25
 imp:∀x∈m.imps.l,x.m.length+x.n.length≤100
 funcs:m.funcs.l.length≤110
 func:∀x∈m.funcs.l,BdLen 151 61 110 x.bd
 mems:m.mems.l.length≤8
 gls:m.gls.l.length≤60
 exs:m.exs.l.length≤60
 ex:∀x∈m.exs.l,x.name.length≤60
 els:m.els.l.length≤25
 el:∀x∈m.els.l,x.fs.l.length≤30
 das:m.das.l.length≤25
 da:∀x∈m.das.l,x.bs.l.length≤4100
theorem BdLen.more {a b c a2 b2 c2:Nat} {y:BdL} (h:BdLen a b c y) (h1:a≤a2) (h2:b≤b2) (h3:c≤c2):BdLen a2 b2 c2 y:=⟨Nat.le_trans h.loc h2,Nat.le_trans h.l h1,fun x hx=>Nat.le_trans (h.lab x hx) h3⟩
abbrev RI:=Int×Int×Int×Int×Sl Int×Unit
def u64D (n:Int):List Value:=[.int .u64 n]
theorem u64D_one {l:List Int}:∀u∈l.flatMap u64D,u.oneCell'=true:=by
 intro u hu
 obtain⟨n,_,hn⟩:=List.mem_flatMap.1 hu
 simp[u64D]at hn
 subst hn
 rfl
theorem append_fresh {P:Program} {w:World} {t ty e:TypeId} {size bytes:Nat} (hE:IsElem P t e size bytes) (g base:Nat) (hg:base≤g) (hh:w.heap[g]?=some (.cells #[] e (0,0))) (Bk:Nat) (A:Option Addr) (m c:Nat) (news:List Value)
  (hr:Reads w Bk size A m news) (h1:∀u∈news,u.oneCell'=true) (hroom:Room 0 m bytes) (hbase:base≤w.heap.size) :
  ∃v' w',(Builtin.append_ #[t,t] ty #[.slice (some ⟨g,0,none⟩) 0 0,.slice A m c]).run P w=.ok v' w'∧w'.ownsRow base e size v' m news∧Below w.heap.size w w':=by
 obtain⟨ht,i,z,hi,hz,hsize,hby,hzs,hsz⟩:=hE
 rcases Nat.eq_zero_or_pos m with h0|h0
 ·subst h0
  have hn:news=[]:=List.eq_nil_of_length_eq_zero (by simpa using hr.1)
  subst hn
  have hown:w.ownsRow base e size (.slice (some ⟨g,0,none⟩) 0 0) 0 []:=⟨by simp,.inr ⟨g,0,#[],rfl,hg,hh,Nat.le_refl _,by unfold maxLen;omega,by simp,by simp⟩⟩
  refine⟨_,w,?_,hown,Below.refl _ _⟩
  cases A with
  | none=>exact run_append_of_nil base t ty e i size ht hi _ 0 [] hown c
  | some a=>simp[Builtin.append_,run_underlying ht,sizeOf,typeInfo,hi,Builtin.lenOf,Builtin.firstCells,storeCells,loadCells,loadCellsFrom]
 ·obtain⟨ad,rfl,_,hc⟩:=hr.2 h0
  obtain⟨v',w',hrun,h2,h3⟩:=run_append_arg_grows (P:=P) (w:=w) t ty e i z size bytes ht hi hz hsize hby hzs hsz ⟨g,0,none⟩ 0 0 [] (by simp) (by simp) ad m c news hr.1 hc (by omega) hroom.1 hroom.2
  refine⟨v',w',hrun,?_,(Below.refl _ _).grown h3 (Nat.le_refl _) (fun q hq=>by cases hq)⟩
  rw[Nat.zero_add,List.nil_append]at h2
  exact own_base h2 (fun q hq=>by have:=own_ge h2 q hq;omega)
def ToPost (w:World) (x:RI) (e:Ending) (w':World):Prop :=
 ∃A c,e=.returned (.agg #[.int .i64 x.1,.int .u64 x.2.1,.int .u64 x.2.2.1,.int .i64 x.2.2.2.1,.slice A x.2.2.2.2.1.l.length c])∧Hid (w'.ownsRow w.heap.size 66 1 (.slice A x.2.2.2.2.1.l.length c) x.2.2.2.2.1.l.length (x.2.2.2.2.1.l.flatMap u64D))∧Hid (Below w.heap.size w w')
theorem u64_elem:IsElem Tryz.prog 67 66 1 8:=IsElem.mk' Tryz.underlying67 (z:=.int .u64 0) (by kernel_rfl) rfl (by omega)
set_option maxRecDepth 100000 in
set_option maxHeartbeats 800000 in
theorem insTo_any (x:RI) (w:World) (hr:Hid (Reads w w.heap.size 1 x.2.2.2.2.1.at_ x.2.2.2.2.1.l.length (x.2.2.2.2.1.l.flatMap u64D))) (hl:x.2.2.2.2.1.l.length≤1000000) :
  Calls Tryz.prog 51 #[.agg #[.int .i64 x.1,.int .u64 x.2.1,.int .u64 x.2.2.1,.int .i64 x.2.2.2.1,.slice x.2.2.2.2.1.at_ x.2.2.2.2.1.l.length x.2.2.2.2.1.cap]] w (ToPost w x):=by
 obtain⟨c,a,b,al,⟨A,k,l⟩,u⟩:=x
 simp only at hr hl ⊢
 go_enter Tryz.func51,Tryz.ntmps51
 go_wp2_with fail
 obtain⟨W,hW⟩:∃W,((w.alloc (.cells #[.int .i64 c,.int .u64 a,.int .u64 b,.int .i64 al,.slice A l.length k] 69)).alloc (.cells #[.int .i64 0,.int .u64 0,.int .u64 0,.int .i64 0,.slice none 0 0] 131))=W:=⟨_,rfl⟩
 have hbW:Below w.heap.size w W:=by rw[←hW];exact((Below.refl _ _).alloc (Nat.le_refl _) _).alloc (by simp) _
 obtain⟨gb,hgb⟩:∃gb,w.heap.size=gb:=⟨_,rfl⟩
 have hblk:W.heap[gb]?=some (.cells #[.int .i64 c,.int .u64 a,.int .u64 b,.int .i64 al,.slice A l.length k] 69 (0,0)):=by
  rw[←hW,←hgb,Below.heap_alloc _ _ _ (by simp)]
  exact heap_alloc_new w _
 have hblk2:W.heap[gb+1]?=some (.cells #[.int .i64 0,.int .u64 0,.int .u64 0,.int .i64 0,.slice none 0 0] 131 (0,0)):=by
  rw[←hW,←hgb]
  have:=heap_alloc_new (w.alloc (.cells #[.int .i64 c,.int .u64 a,.int .u64 b,.int .i64 al,.slice A l.length k] 69)) (.cells #[.int .i64 0,.int .u64 0,.int .u64 0,.int .i64 0,.slice none 0 0] 131)
  simpa using this
 have hsz:W.heap.size=gb+2:=by rw[←hW,←hgb];simp
 rw[hW,hgb]
 rw[hgb]at hbW hr
 have hrW:=hide (hr.out.below hbW)
 have HB:=hide hbW
 have HW:=hide hW
 have HG:=hide hgb
 clear hbW hW hgb
 have c0:=cell_blk hblk 0
 have c1:=cell_blk hblk 1
 have c2:=cell_blk hblk 2
 have c3:=cell_blk hblk 3
 have c4:=cell_blk hblk 4
 simp at c0 c1 c2 c3 c4
 have HC:CellsOf W (gb+2) gb _:=CellsOf.of hblk (by omega)
 have HK:=hide hblk
 have HK2:=hide hblk2
 clear hblk hblk2
 have hroom:Room 0 l.length 8:=room_of (by omega) (by omega)
 refine wp_region_last (l:=[_,_,_,_,_,_,_,_,_,_,_,_,_]) (o:=_) grew_ext (factsOf [fun v _=>v=.pointer (some ⟨gb,0,none⟩),
  fun v _=>v=.int .i64 c,
  fun v _=>v=.pointer (some ⟨gb,1,none⟩),
  fun v _=>v=.int .u64 a,
  fun v _=>v=.pointer (some ⟨gb,2,none⟩),
  fun v _=>v=.int .u64 b,
  fun v _=>v=.pointer (some ⟨gb,3,none⟩),
  fun v _=>v=.int .i64 al,
  fun v W=>∃g,v=.slice (some ⟨g,0,none⟩) 0 0∧gb+2≤g∧W.heap[g]?=some (.cells #[] 66 (0,0)),
  fun v _=>v=.pointer (some ⟨gb,4,none⟩),
  fun v _=>v=.slice A l.length k,
  fun v W=>∃A1 c1,v=.slice A1 l.length c1∧W.ownsRow (gb+2) 66 1 (.slice A1 l.length c1) l.length (l.flatMap u64D),
  fun v W=>∃A1 c1,v=.agg #[.int .i64 c,.int .u64 a,.int .u64 b,.int .i64 al,.slice A1 l.length c1]∧W.ownsRow (gb+2) 66 1 (.slice A1 l.length c1) l.length (l.flatMap u64D)]) (by kernel_rfl) (by kernel_rfl) (by kernel_rfl) ?_ ?_
 ·refine⟨?_,?_,?_,?_,?_,?_,?_,?_,?_,?_,?_,?_,?_,trivial⟩
  ·refine⟨fun ρ W hk=>?_⟩
   have o1:ρ (.tmp 1)=.pointer (some ⟨gb,0,none⟩):=hk.old 1 (by decide)
   exact OpOut.fieldAddr (x:=.tmp 1) rfl o1 (by go_simp) ⟨Below.refl _ _,rfl⟩
  ·refine⟨fun ρ W hk=>?_⟩
   have h0:=(hk.fact 0 3 (by decide) rfl).pure
   have hc:=HC.out W hk.below 0 (.int .i64 c) rfl
   exact OpOut.load (x:=.tmp 3) rfl h0 (by go_simp) ⟨Below.refl _ _,rfl⟩
  ·refine⟨fun ρ W hk=>?_⟩
   have o1:ρ (.tmp 1)=.pointer (some ⟨gb,0,none⟩):=hk.old 1 (by decide)
   exact OpOut.fieldAddr (x:=.tmp 1) rfl o1 (by go_simp) ⟨Below.refl _ _,rfl⟩
  ·refine⟨fun ρ W hk=>?_⟩
   have h2:=(hk.fact 2 5 (by decide) rfl).pure
   have hc:=HC.out W hk.below 1 (.int .u64 a) rfl
   exact OpOut.load (x:=.tmp 5) rfl h2 (by go_simp) ⟨Below.refl _ _,rfl⟩
  ·refine⟨fun ρ W hk=>?_⟩
   have o1:ρ (.tmp 1)=.pointer (some ⟨gb,0,none⟩):=hk.old 1 (by decide)
   exact OpOut.fieldAddr (x:=.tmp 1) rfl o1 (by go_simp) ⟨Below.refl _ _,rfl⟩
  ·refine⟨fun ρ W hk=>?_⟩
   have h4:=(hk.fact 4 7 (by decide) rfl).pure
   have hc:=HC.out W hk.below 2 (.int .u64 b) rfl
   exact OpOut.load (x:=.tmp 7) rfl h4 (by go_simp) ⟨Below.refl _ _,rfl⟩
  ·refine⟨fun ρ W hk=>?_⟩
   have o1:ρ (.tmp 1)=.pointer (some ⟨gb,0,none⟩):=hk.old 1 (by decide)
   exact OpOut.fieldAddr (x:=.tmp 1) rfl o1 (by go_simp) ⟨Below.refl _ _,rfl⟩
  ·refine⟨fun ρ W hk=>?_⟩
   have h6:=(hk.fact 6 9 (by decide) rfl).pure
   have hc:=HC.out W hk.below 3 (.int .i64 al) rfl
   exact OpOut.load (x:=.tmp 9) rfl h6 (by go_simp) ⟨Below.refl _ _,rfl⟩
  ·refine⟨fun ρ W hk=>?_⟩
   have hz:=HC.size W hk.below
   exact OpOut.buildSlice (us:=#[]) rfl (by simp) (by go_simp) ⟨(Below.refl _ _).alloc (Nat.le_refl _) _,W.heap.size,rfl,hz,heap_alloc_new W _⟩
  ·refine⟨fun ρ W hk=>?_⟩
   have o1:ρ (.tmp 1)=.pointer (some ⟨gb,0,none⟩):=hk.old 1 (by decide)
   exact OpOut.fieldAddr (x:=.tmp 1) rfl o1 (by go_simp) ⟨Below.refl _ _,rfl⟩
  ·refine⟨fun ρ W hk=>?_⟩
   have h9:=(hk.fact 9 12 (by decide) rfl).pure
   have hc:=HC.out W hk.below 4 (.slice A l.length k) rfl
   exact OpOut.load (x:=.tmp 12) rfl h9 (by go_simp) ⟨Below.refl _ _,rfl⟩
  ·refine⟨fun ρ W hk=>?_⟩
   obtain⟨w8,hw8,g8,h8,hg8,hh8⟩:=hk.fact 8 11 (by decide) rfl
   have h10:=(hk.fact 10 13 (by decide) rfl).pure
   have hh8b:=(hw8.block g8 (blk_lt hh8)).trans hh8
   have hz:=HC.size W hk.below
   obtain⟨v2,W2,hrun,ho2,hb2⟩:=append_fresh (w:=W) (ty:=67) u64_elem g8 (gb+2) hg8 hh8b gb A l.length k (l.flatMap u64D) (hrW.out.below (hk.below.mono (by omega))) u64D_one hroom hz
   obtain⟨A2,k2,rfl,hk2,hk3⟩:=own_form ho2
   exact OpOut.append rfl h8 h10 hrun ⟨hb2,A2,k2,rfl,ho2⟩
  ·refine⟨fun ρ W hk=>?_⟩
   have h1:=(hk.fact 1 4 (by decide) rfl).pure
   have h3:=(hk.fact 3 6 (by decide) rfl).pure
   have h5:=(hk.fact 5 8 (by decide) rfl).pure
   have h7:=(hk.fact 7 10 (by decide) rfl).pure
   obtain⟨w11,hw11,A11,c11,h11,ho11⟩:=hk.fact 11 14 (by decide) rfl
   exact OpOut.build (us:=#[(0,.int .i64 c),(1,.int .u64 a),(2,.int .u64 b),(3,.int .i64 al),(4,.slice A11 l.length c11)]) rfl (by simp[h1,h3,h5,h7,h11]) (by go_simp) ⟨Below.refl _ _,A11,c11,rfl,own_only3 (S:=[]) ho11 (Only.of_below hw11) (by simp)⟩
 ·intro vs W2 hb hf
  obtain⟨w12,hw12,A12,c12,h12,ho12⟩:=hf 12 (by decide)
  have hown:=hide (own_only3 (S:=[]) ho12 (Only.of_below hw12) (by simp))
  clear hf
  simp only[fillL]
  rw[h12]
  generalize vs 0=v0,vs 1=v1,vs 2=v2,vs 3=v3,vs 4=v4,vs 5=v5,vs 6=v6,vs 7=v7,vs 8=v8,vs 9=v9,vs 10=v10,vs 11=v11
  have hblk3:=(hb.block (gb+1) (by omega)).trans HK2.out
  have e0:W2.cell? ⟨gb+1,0,none⟩=some (.int .i64 0):=cell_blk hblk3 0
  have e1:W2.cell? ⟨gb+1,1,none⟩=some (.int .u64 0):=cell_blk hblk3 1
  have e2:W2.cell? ⟨gb+1,2,none⟩=some (.int .u64 0):=cell_blk hblk3 2
  have e3:W2.cell? ⟨gb+1,3,none⟩=some (.int .i64 0):=cell_blk hblk3 3
  have e4:W2.cell? ⟨gb+1,4,none⟩=some (.slice none 0 0):=cell_blk hblk3 4
  have z0:=frozen_blk hblk3 0
  have z1:=frozen_blk hblk3 1
  have z2:=frozen_blk hblk3 2
  have z3:=frozen_blk hblk3 3
  have z4:=frozen_blk hblk3 4
  clear hblk3 h12 hw12 ho12
  go_frame
  go_wp2_with fail
  have hs5:∀(V:World) (i:Nat) (x:Value),Only [gb+1] V (V.setCell ⟨gb+1,i,none⟩ x):=fun V i x=>Only.setCell V (p:=⟨gb+1,i,none⟩) (by simp) x
  have ho5:=(((((hs5 W2 0 (.int .i64 c))).trans (hs5 _ 1 (.int .u64 a))).trans (hs5 _ 2 (.int .u64 b))).trans (hs5 _ 3 (.int .i64 al))).trans (hs5 _ 4 (.slice A12 l.length c12))
  have hblk4:=(hb.block (gb+1) (by omega)).trans HK2.out
  have hbF:=setCell_blk (setCell_blk (setCell_blk (setCell_blk (setCell_blk hblk4 0 (.int .i64 c)) 1 (.int .u64 a)) 2 (.int .u64 b)) 3 (.int .i64 al)) 4 (.slice A12 l.length c12)
  generalize ((((W2.setCell ⟨gb+1,0,none⟩ (.int .i64 c)).setCell ⟨gb+1,1,none⟩ (.int .u64 a)).setCell ⟨gb+1,2,none⟩ (.int .u64 b)).setCell ⟨gb+1,3,none⟩ (.int .i64 al)).setCell ⟨gb+1,4,none⟩ (.slice A12 l.length c12)=Wf at ho5 hbF ⊢
  clear e0 e1 e2 e3 e4 z0 z1 z2 z3 z4
  have f0:Wf.cell? ⟨gb+1,0,none⟩=some (.int .i64 c):=cell_blk hbF 0
  have f1:Wf.cell? ⟨gb+1,1,none⟩=some (.int .u64 a):=cell_blk hbF 1
  have f2:Wf.cell? ⟨gb+1,2,none⟩=some (.int .u64 b):=cell_blk hbF 2
  have f3:Wf.cell? ⟨gb+1,3,none⟩=some (.int .i64 al):=cell_blk hbF 3
  have f4:Wf.cell? ⟨gb+1,4,none⟩=some (.slice A12 l.length c12):=cell_blk hbF 4
  refine bodyPost_ret (v:=.agg #[.int .i64 c,.int .u64 a,.int .u64 b,.int .i64 al,.slice A12 l.length c12]) (by simp[results,Tryz.results51,go_sem,f0,f1,f2,f3,f4]) rfl ?_
  refine⟨A12,c12,rfl,?_,?_⟩
  ·have h9:=own_only3 hown.out ho5 (fun g hg=>by have:=own_ge hown.out g hg;simp;omega)
   exact own_base h9 (fun g hg=>by have:=own_ge hown.out g hg;rw[HG.out];omega)
  ·have h9:Below gb w W2:=HB.out.trans (hb.mono (by omega))
   have h10:=h9.size
   rw[HG.out]at h10 ⊢
   exact h9.trans (ho5.below h10 (by simp))
end Go.Proofs.YtomppgohoplemaaGreat
