import Derived.Test.YtpcanheghenhdaaGreatNBM
import Derived.Test.YtpcanheghenhdaaGreatShelf
import Derived.Lib.Slices
import Derived.Test.YtpcanheghenhdaaGreatNAP
set_option linter.unusedVariables false
namespace Go.Proofs.YtpcanheghenhdaaGreat
open Go.RowKit
theorem run_any (g:Nat) (m:MoL) (f:Int) (w:World) (ml:Int) (h:Hid (MoAt w g m)) (hz:Hid (MoSz m)) (hbz:Hid (∀y∈m.funcs.l,BdSz y.bd)) (hml:Hid (w.cell? ⟨0,0,none⟩=some (.int .i64 ml))) :
  Calls Tryz.prog 36 #[.pointer (some ⟨g,0,none⟩),.int .i64 f] w (RunP w (runP m.g f)):=by
 have hfl:m.g.funcs.length=m.funcs.l.length:=by simp[MoL.g]
 unfold runP
 by_cases hu:(unfitP m.g).2=0
 ·rw[if_neg (by omega)]
  by_cases hf:inB f m.funcs.l.length=true
  ·rw[hfl,if_pos hf]
   obtain⟨f1,f2⟩:=inB_iff.1 hf
   obtain⟨k,rfl⟩:∃k:Nat,f=(k:Int):=⟨f.toNat,by omega⟩
   have hk:k<m.funcs.l.length:=by omega
   have hy:m.funcs.l[k]?=some m.funcs.l[k]:=List.getElem?_eq_getElem hk
   have hg:m.g.funcs.getD (k:Int).toNat noFu=m.funcs.l[k].g:=getD_some (by simp[MoL.g,hk])
   rw[hg]
   exact run_in g m k m.funcs.l[k] w ml h hz hbz hu hy hml
  ·rw[hfl,if_neg hf]
   refine run_out g m f w h hz hu ?_
   have:¬(0≤f∧f<(m.funcs.l.length:Int)):=fun h=>hf (inB_iff.2 h)
   omega
 ·rw[if_pos hu]
  exact run_unfit g m f w h hz hu
set_option maxRecDepth 100000 in
theorem func_of (pm:Value) (f:Int) (w:World) (r:List Nat×Nat×Nat) (h:Hid (Calls Tryz.prog 36 #[pm,.int .i64 f] w (RunP w r))) :
  Calls Tryz.prog 12 #[pm,.int .i64 f] w fun e w'=>e=.returned (.tuple #[.int .i64 (r.2.1:Int),.int .i64 (r.2.2:Int)])∧Hid (Below w.heap.size w w'):=by
 obtain⟨hs,at_,er⟩:=r
 go_enter Tryz.func12,Tryz.ntmps12
 go_wp2_with fail
 refine h.out.mono ?_;rintro e w1 ⟨A,c,rfl,ho,hb⟩
 go_wp2_with fail
 go_ret2
 exact⟨rfl,hb⟩
def HeiP (w:World) (r:List Nat×Nat×Nat) (e:Ending) (w':World):Prop :=
 ∃A c,e=.returned (.tuple #[.slice A r.1.length c,.int .i64 (r.2.2:Int)])∧Hid (w'.ownsRow w.heap.size 3 1 (.slice A r.1.length c) r.1.length (r.1.map hD))∧Hid (Below w.heap.size w w')
set_option maxRecDepth 100000 in
theorem heights_of (pm:Value) (f:Int) (w:World) (r:List Nat×Nat×Nat) (h:Hid (Calls Tryz.prog 36 #[pm,.int .i64 f] w (RunP w r))) :
  Calls Tryz.prog 37 #[pm,.int .i64 f] w (HeiP w r):=by
 obtain⟨hs,at_,er⟩:=r
 go_enter Tryz.func37,Tryz.ntmps37
 go_wp2_with fail
 refine h.out.mono ?_;rintro e w1 ⟨A,c,rfl,ho,hb⟩
 go_wp2_with fail
 go_ret2
 exact⟨A,c,rfl,ho,hb⟩
def peakN (hs:List Nat):Nat:=hs.foldl max 0
theorem max_cast:∀(l:List Nat) (a:Nat),(l.map fun n:Nat=>(n:Int)).foldl max (a:Int)=((l.foldl max a:Nat):Int)
 | [],a=>rfl
 | n::r,a=>by
  rw[List.map_cons,List.foldl_cons,List.foldl_cons,←max_cast r (max a n)]
  congr 1
  omega
theorem peak_maxOf (hs:List Nat):Lib.maxOf (hs.map (fun n:Nat=>(n:Int))++[0])=(peakN hs:Int):=by
 unfold Lib.maxOf peakN
 cases hs with
 | nil=>rfl
 | cons a r =>
  have e1:(List.map (fun n:Nat=>(n:Int)) (a::r)++[0])=((a::r)++[0]).map (fun n:Nat=>(n:Int)):=by simp
  rw[e1]
  show (((a::r)++[0]).map (fun n:Nat=>(n:Int))).foldl max ((a:Nat):Int)=_
  rw[max_cast]
  congr 1
  rw[List.foldl_append,List.foldl_cons,List.foldl_cons]
  show max (r.foldl max (max a a)) 0=r.foldl max (max 0 a)
  rw[Nat.max_self,Nat.zero_max,Nat.max_zero]
set_option maxRecDepth 100000 in
theorem peak_of (pm:Value) (f:Int) (w:World) (r:List Nat×Nat×Nat) (h:Hid (Calls Tryz.prog 36 #[pm,.int .i64 f] w (RunP w r))) (hl:r.1.length≤1000) :
  Calls Tryz.prog 13 #[pm,.int .i64 f] w fun e w'=>e=.returned (.int .i64 (peakN r.1:Int))∧Hid (Below w.heap.size w w'):=by
 have HH:=hide (heights_of pm f w r h)
 obtain⟨hs,at_,er⟩:=r
 simp only at hl
 have hroom:Room hs.length 1 8:=room_of (by omega) (by omega)
 go_enter Tryz.func13,Tryz.ntmps13
 go_wp2_with fail
 refine HH.out.mono ?_;rintro e w1 ⟨A,c,rfl,ho,hb⟩
 have hsz:=hb.out.size
 simp only at ho
 clear HH
 go_wp2_with (first|(at_builtin;refine wpList_push rfl _ _ rfl w.heap.size int_elem _ hs.length (hs.map hD) rfl w1 _ _ rfl ho.out rfl rfl hroom hsz ?_;intro v' w2 ho' hg';obtain⟨gq,cq,hv⟩:=own_some ho' (by omega);subst hv;have HB2:=hide (hg'.below' hb.out hsz (own_ge ho.out));have HO2:=hide ho';clear hg' ho')|fail)
 have hce:∀j,j<(hs.map (fun n:Nat=>(n:Int))++[0]).length→w2.cell? ⟨gq,0+j,none⟩=some (.int .i64 ((hs.map (fun n:Nat=>(n:Int))++[0]).getD j 0)):=by
  intro j hj
  have e1:(hs.map hD++[Value.int .i64 0])[j]?=some (.int .i64 ((hs.map (fun n:Nat=>(n:Int))++[0]).getD j 0)):=by
   have e2:hs.map hD++[Value.int .i64 0]=(hs.map (fun n:Nat=>(n:Int))++[0]).map (fun n:Int=>Value.int .i64 n):=by simp[hD]
   rw[e2,List.getElem?_map,getD_lt hj (d:=0)]
   rfl
  have:=HO2.out.cells (g:=gq) rfl j _ e1
  have ha:(⟨gq,0,none⟩:Addr).add j=⟨gq,0+j,none⟩:=by unfold Addr.add;split<;>simp_all
  rw[←ha]
  exact this
 refine(Tryz.slices_Max_int gq 0 (hs.length+1) cq (hs.map (fun n:Nat=>(n:Int))++[0]) w2 (by omega) (by simp) (by omega) hce).mono ?_
 rintro e w3 ⟨rfl,rfl⟩
 clear hce
 go_wp2_with fail
 go_ret
 refine⟨?_,HB2⟩
 rw[List.take_of_length_le (by simp),peak_maxOf]
 rfl
def exL16:List XI:=[⟨65,1,0,0,[]⟩,⟨11,0,0,0,[]⟩]
def exM16:Mo:=⟨[⟨[],[127]⟩,⟨[],[]⟩],[],[⟨0,⟨[],exL16⟩⟩,⟨1,⟨[],exL16⟩⟩],-1,[],[],[],-1,[],[]⟩
theorem ex_run0:(runP exM16 0).2=(0,0):=by decide +kernel
theorem ex_run1:(runP exM16 1).2=(1,5):=by decide +kernel
theorem reads_blkN {w:World} {g n size:Nat} {cs:List Value} {t:TypeId} (h:w.heap[g]?=some (.cells cs.toArray t (0,0))) (hn:cs.length=n*size):Reads w w.heap.size size (some ⟨g,0,none⟩) n cs:=by
 refine⟨hn,fun _=>⟨_,rfl,blk_lt h,fun j u hu=>?_⟩⟩
 rw[show (⟨g,0,none⟩:Addr).add j=⟨g,j,none⟩from by unfold Addr.add;split<;>simp_all,cell_blk h j]
 simpa using hu
theorem row_blk {α:Type} {w:World} {g size c:Nat} {dec:α→List Value} {l:List α} {t:TypeId} (h:w.heap[g]?=some (.cells (l.flatMap dec).toArray t (0,0))) (hd:∀a,(dec a).length=size) (hc:l.length≤c) (hm:c≤1000):Row w size dec ⟨some ⟨g,0,none⟩,c,l⟩ :=
 ⟨reads_blkN h (flatMap_len hd l),hc,by show c≤_;unfold maxLen;omega⟩
def noSl {α:Type}:Sl α:=⟨none,0,[]⟩
theorem row_none {α:Type} {w:World} {size:Nat} {dec:α→List Value}:Row w size dec (noSl:Sl α):=⟨⟨by simp[noSl],fun h=>absurd h (by simp[noSl])⟩,Nat.le_refl _,Nat.zero_le _⟩
def exI16:List XL:=[⟨65,1,0,0,noSl⟩,⟨11,0,0,0,noSl⟩]
def exS16 (a0:Nat):List SgL:=[⟨noSl,⟨some ⟨a0,0,none⟩,1,[127]⟩⟩,⟨noSl,noSl⟩]
def exF16 (a3:Nat):List FuL:=[⟨0,⟨noSl,⟨some ⟨a3,0,none⟩,2,exI16⟩⟩⟩,⟨1,⟨noSl,⟨some ⟨a3,0,none⟩,2,exI16⟩⟩⟩]
def xmL (a0 a1 a3 a5:Nat):MoL:=⟨⟨some ⟨a1,0,none⟩,2,exS16 a0⟩,noSl,⟨some ⟨a5,0,none⟩,2,exF16 a3⟩,-1,noSl,noSl,noSl,-1,noSl,noSl⟩
theorem xmL_in {w:World} {a0 a1 a3 a5:Nat} (h0:w.heap[a0]?=some (.cells #[.int .u8 127] 5 (0,0)))
  (h1:w.heap[a1]?=some (.cells #[.slice none 0 0,.slice (some ⟨a0,0,none⟩) 1 1,.slice none 0 0,.slice none 0 0] 94 (0,0)))
  (h3:w.heap[a3]?=some (.cells #[.int .i64 65,.int .u64 1,.int .u64 0,.int .i64 0,.slice none 0 0,.int .i64 11,.int .u64 0,.int .u64 0,.int .i64 0,.slice none 0 0] 45 (0,0)))
  (h5:w.heap[a5]?=some (.cells #[.int .i64 0,.slice none 0 0,.slice (some ⟨a3,0,none⟩) 2 2,.int .i64 1,.slice none 0 0,.slice (some ⟨a3,0,none⟩) 2 2] 39 (0,0))):MoIn w (xmL a0 a1 a3 a5):=by
 have hins:Row w 5 XL.cs ⟨some ⟨a3,0,none⟩,2,exI16⟩:=row_blk h3 (fun _=>rfl) (by decide) (by omega)
 have hbd:BdIn w ⟨noSl,⟨some ⟨a3,0,none⟩,2,exI16⟩⟩:=⟨row_none,hins,fun x hx=>by
  simp[exI16]at hx
  rcases hx with rfl|rfl<;>exact row_none,fun x hx=>by
  simp[exI16]at hx
  rcases hx with rfl|rfl<;>exact⟨by decide,by decide,by decide,by decide,by decide,by decide,fun n hn=>by simp[XL.x,noSl]at hn⟩⟩
 refine⟨row_blk h1 (fun _=>rfl) (by simp[exS16]) (by omega),fun z hz=>?_,row_none,fun x hx=>by simp[xmL,noSl]at hx,row_blk h5 (fun _=>rfl) (by simp[exF16]) (by omega),fun y hy=>?_,by unfold I64;simp[xmL],row_none,fun x hx=>by simp[xmL,noSl]at hx,row_none,fun x hx=>by simp[xmL,noSl]at hx,row_none,fun x hx=>by simp[xmL,noSl]at hx,by unfold I64;simp[xmL],row_none,fun x hx=>by simp[xmL,noSl]at hx,row_none,fun x hx=>by simp[xmL,noSl]at hx⟩
 ·simp[xmL,exS16]at hz
  rcases hz with rfl|rfl
  ·exact⟨row_none,row_blk h0 (fun _=>rfl) (by simp) (by omega)⟩
  ·exact⟨row_none,row_none⟩
 ·simp[xmL,exF16]at hy
  rcases hy with rfl|rfl
  ·exact⟨by unfold I64;simp,hbd⟩
  ·exact⟨by unfold I64;simp,hbd⟩
theorem xmL_sm (a0 a1 a3 a5:Nat):MoSm (xmL a0 a1 a3 a5):=by
 have hb:BdLen 151 61 110 ⟨noSl,⟨some ⟨a3,0,none⟩,2,exI16⟩⟩:=⟨by simp[noSl],by simp[exI16],fun x hx=>by
  simp[exI16]at hx
  rcases hx with rfl|rfl<;>simp[noSl]⟩
 refine⟨by simp[xmL,exS16],fun z hz=>?_,by simp[xmL,noSl],fun x hx=>by simp[xmL,noSl]at hx,by simp[xmL,exF16],fun y hy=>?_,by simp[xmL,noSl],by simp[xmL,noSl],by simp[xmL,noSl],fun x hx=>by simp[xmL,noSl]at hx,by simp[xmL,noSl],fun x hx=>by simp[xmL,noSl]at hx,by simp[xmL,noSl],fun x hx=>by simp[xmL,noSl]at hx⟩
 ·simp[xmL,exS16]at hz
  rcases hz with rfl|rfl<;>simp[noSl]
 ·simp[xmL,exF16]at hy
  rcases hy with rfl|rfl<;>exact hb
theorem MoSm.sz {m:MoL} (h:MoSm m):MoSz m :=
 ⟨by have:=h.sigs;omega,fun x hx=>by have:=h.sig x hx;omega,by have:=h.imps;omega,by have:=h.funcs;omega,by have:=h.mems;omega,by have:=h.gls;omega,by have:=h.exs;omega,by have:=h.els;omega,fun x hx=>by have:=h.el x hx;omega,by have:=h.das;omega,fun x hx=>by have:=h.da x hx;omega⟩
theorem MoSm.bd {m:MoL} (h:MoSm m):∀y∈m.funcs.l,BdSz y.bd:=fun y hy=>by
 obtain⟨a,b,c⟩:=h.func y hy
 exact⟨by omega,by omega,fun x hx=>by have:=c x hx;omega⟩
theorem func_at {g:Nat} {m2:MoL} {m:Mo} {w:World} {ml:Int} (hM:Hid (MoAt w g m2)) (hg:Hid (m2.g=m)) (hs:Hid (MoSm m2)) (hml:Hid (w.cell? ⟨0,0,none⟩=some (.int .i64 ml))) (f:Int) (x y:Nat) (hr:(runP m f).2=(x,y)) :
  Calls Tryz.prog 12 #[.pointer (some ⟨g,0,none⟩),.int .i64 f] w fun e w'=>e=.returned (.tuple #[.int .i64 (x:Int),.int .i64 (y:Int)])∧Hid (Below w.heap.size w w'):=by
 have h:=run_any g m2 f w ml hM (hide hs.out.sz) (hide hs.out.bd) hml
 rw[hg.out]at h
 have h2:=func_of _ f w _ (hide h)
 rw[hr]at h2
 exact h2
set_option maxRecDepth 100000 in
set_option maxHeartbeats 1600000 in
theorem awake16 (w:World) (ml:Int) (hml:Hid (w.cell? ⟨0,0,none⟩=some (.int .i64 ml))):Calls Tryz.prog 10 #[] w fun e w'=>e=.returned (.bool true)∧Hid (Below w.heap.size w w'):=by
 obtain⟨a,ha⟩:∃a,w.heap.size=a:=⟨_,rfl⟩
 obtain⟨W1,hW1,hb1,hx1,hs1⟩:=box_new w #[.int .u8 127] 5
 rw[ha]at hx1 hs1
 obtain⟨W2,hW2,hb2,hx2,hs2⟩:=box_new W1 #[.slice none 0 0,.slice (some ⟨a,0,none⟩) 1 1,.slice none 0 0,.slice none 0 0] 94
 rw[hs1]at hx2 hs2
 obtain⟨W3,hW3,hb3,hx3,hs3⟩:=box_new W2 #[.slice (some ⟨a+1,0,none⟩) 2 2,.slice none 0 0,.slice none 0 0,.int .i64 (-1),.slice none 0 0,.slice none 0 0,.slice none 0 0,.int .i64 (-1),.slice none 0 0,.slice none 0 0] 31
 rw[hs2]at hx3 hs3
 obtain⟨W4,hW4,hb4,hx4,hs4⟩:=box_new W3 #[.int .i64 65,.int .u64 1,.int .u64 0,.int .i64 0,.slice none 0 0,.int .i64 11,.int .u64 0,.int .u64 0,.int .i64 0,.slice none 0 0] 45
 rw[hs3]at hx4 hs4
 obtain⟨W5,hW5,hb5,hx5,hs5⟩:=box_new W4 #[.slice none 0 0,.slice (some ⟨a+3,0,none⟩) 2 2] 37
 rw[hs4]at hx5 hs5
 have k35:=(hb5.block (a+2) (by omega)).trans ((hb4.block (a+2) (by omega)).trans hx3)
 have HK5:=hide k35
 have k6:=setCell_blk k35 2 (.slice (some ⟨a+5,0,none⟩) 2 2)
 have hO:Only [a+2] W5 (W5.setCell ⟨a+2,2,none⟩ (.slice (some ⟨a+5,0,none⟩) 2 2)):=Only.setCell W5 (p:=⟨a+2,2,none⟩) (by simp) _
 have hs6:(W5.setCell ⟨a+2,2,none⟩ (.slice (some ⟨a+5,0,none⟩) 2 2)).heap.size=a+5:=by rw[World.setCell];simp;omega
 obtain⟨W6,hW6⟩:∃W6,W5.setCell ⟨a+2,2,none⟩ (.slice (some ⟨a+5,0,none⟩) 2 2)=W6:=⟨_,rfl⟩
 rw[hW6]at k6 hO hs6
 obtain⟨W7,hW7,hb7,hx7,hs7⟩:=box_new W6 #[.int .i64 0,.slice none 0 0,.slice (some ⟨a+3,0,none⟩) 2 2,.int .i64 1,.slice none 0 0,.slice (some ⟨a+3,0,none⟩) 2 2] 39
 rw[hs6]at hx7 hs7
 have k7:=(hb7.block (a+2) (by omega)).trans k6
 have hbw6:Below w.heap.size w W6:=((((hb1.trans (hb2.mono hb1.size)).trans (hb3.mono (by omega))).trans (hb4.mono (by omega))).trans (hb5.mono (by omega))).trans (hO.below (by omega) (by simp;omega))
 have hbw7:Below w.heap.size w W7:=hbw6.trans (hb7.mono (by omega))
 have up:∀i,i<a+5→i≠a+2→W7.heap[i]?=W5.heap[i]?:=fun i hi hne=>(hb7.block i (by omega)).trans (hO.block i (by omega) (by simpa using hne))
 have t0:=(up a (by omega) (by omega)).trans ((hb5.block a (by omega)).trans ((hb4.block a (by omega)).trans ((hb3.block a (by omega)).trans ((hb2.block a (by omega)).trans hx1))))
 have t1:=(up (a+1) (by omega) (by omega)).trans ((hb5.block (a+1) (by omega)).trans ((hb4.block (a+1) (by omega)).trans ((hb3.block (a+1) (by omega)).trans hx2)))
 have t3:=(up (a+3) (by omega) (by omega)).trans ((hb5.block (a+3) (by omega)).trans hx4)
 have t5:=hx7
 have hin:=xmL_in t0 t1 t3 t5
 have HIN:=hide hin
 have HK7:=hide k7;have HX3:=hide hx3;have HX5:=hide hx5
 have HA:=hide ha;have HW1:=hide hW1;have HW2:=hide hW2;have HW3:=hide hW3;have HW4:=hide hW4;have HW5:=hide hW5;have HW6:=hide hW6;have HW7:=hide hW7
 have HS1:=hide hs1;have HS2:=hide hs2;have HS3:=hide hs3;have HS4:=hide hs4;have HS5:=hide hs5;have HS6:=hide hs6;have HB7:=hide hbw7
 clear ha hW1 hb1 hx1 hs1 hW2 hb2 hx2 hs2 hW3 hb3 hx3 hs3 hW4 hb4 hx4 hs4 hW5 hb5 hx5 hs5 hW6 hs6 hW7 hb7 hx7 hs7 k35 k6 k7 hO hbw6 hbw7 up t0 t1 t3 t5 hin
 go_enter Tryz.func10,Tryz.ntmps10
 go_upto_region 2 with fail
 rw[HA.out,HW1.out,HW2.out,HW3.out]
 rw[show a+1+1=a+2 from rfl]
 have e3:=HS3.out
 rw[show a+1+1+1=a+3 from rfl]at e3
 have y0:=cell_blk HX5.out 0
 have y1:=cell_blk HX5.out 1
 simp at y0 y1
 go_upto_region 3 with fail
 rw[HW4.out,HW5.out]
 rw[show a+3+1=a+4 from rfl]
 have e5:=HS5.out
 rw[show a+1+1+1+1+1=a+5 from rfl]at e5
 have y2:=cell_blk HK5.out 2
 have f2:=frozen_blk HK5.out 2
 simp at y2
 go_upto_region 4 with fail
 rw[HW6.out,HW7.out]
 have c0:=cell_blk HK7.out 0
 have c1:=cell_blk HK7.out 1
 have c2:=cell_blk HK7.out 2
 have c3:=cell_blk HK7.out 3
 have c4:=cell_blk HK7.out 4
 have c5:=cell_blk HK7.out 5
 have c6:=cell_blk HK7.out 6
 have c7:=cell_blk HK7.out 7
 have c8:=cell_blk HK7.out 8
 have c9:=cell_blk HK7.out 9
 simp at c0 c1 c2 c3 c4 c5 c6 c7 c8 c9
 have hml7:Hid (W7.cell? ⟨0,0,none⟩=some (.int .i64 ml)):=(HB7.out.cell (World.block_lt_of_cell? w _ hml.out)).trans hml.out
 have HTO:Hid (∀V,Below W7.heap.size W7 V→Calls Tryz.prog 11 #[.agg #[.slice (some ⟨a+1,0,none⟩) 2 2,.slice none 0 0,.slice (some ⟨a+5,0,none⟩) 2 2,.int .i64 (-1),.slice none 0 0,.slice none 0 0,.slice none 0 0,.int .i64 (-1),.slice none 0 0,.slice none 0 0]] V (ToM (xmL a (a+1) (a+3) (a+5)) V)):=fun V hV =>
  lto_any (xmL a (a+1) (a+3) (a+5)) V (hide (HIN.out.below hV)) (hide (xmL_sm _ _ _ _))
 clear y0 y1 y2 f2
 go_wp2_with fail
 refine(HTO.out W7 (Below.refl _ _)).mono ?_;rintro e w1 ⟨g1,m1,rfl,hM1,hg1,hS1,hb1⟩
 have hml1:Hid (w1.cell? ⟨0,0,none⟩=some (.int .i64 ml)):=(hb1.out.cell (World.block_lt_of_cell? W7 _ hml7.out)).trans hml7.out
 go_wp2_with fail
 refine(func_at hM1 hg1 hS1 hml1 0 0 0 ex_run0).mono ?_;rintro e w2 ⟨rfl,hb2⟩
 have hb72:=hide (hb1.out.trans (hb2.out.mono hb1.out.size))
 have hk2:=(hb72.out.block (a+2) (blk_lt HK7.out)).trans HK7.out
 clear c0 c1 c2 c3 c4 c5 c6 c7 c8 c9
 have c0:=cell_blk hk2 0
 have c1:=cell_blk hk2 1
 have c2:=cell_blk hk2 2
 have c3:=cell_blk hk2 3
 have c4:=cell_blk hk2 4
 have c5:=cell_blk hk2 5
 have c6:=cell_blk hk2 6
 have c7:=cell_blk hk2 7
 have c8:=cell_blk hk2 8
 have c9:=cell_blk hk2 9
 simp at c0 c1 c2 c3 c4 c5 c6 c7 c8 c9
 clear hk2
 go_wp2_with fail
 refine(HTO.out w2 hb72.out).mono ?_;rintro e w3 ⟨g3,m3,rfl,hM3,hg3,hS3,hb3⟩
 have hb73:=hide (hb72.out.trans (hb3.out.mono hb72.out.size))
 have hml3:Hid (w3.cell? ⟨0,0,none⟩=some (.int .i64 ml)):=(hb73.out.cell (World.block_lt_of_cell? W7 _ hml7.out)).trans hml7.out
 clear c0 c1 c2 c3 c4 c5 c6 c7 c8 c9
 go_wp2_with fail
 refine(func_at hM3 hg3 hS3 hml3 1 1 5 ex_run1).mono ?_;rintro e w4 ⟨rfl,hb4⟩
 have hfin:=hide (HB7.out.trans ((hb73.out.trans (hb4.out.mono hb73.out.size)).mono HB7.out.size))
 go_wp2_with fail
 go_ret
 exact⟨rfl,hfin⟩
end Go.Proofs.YtpcanheghenhdaaGreat
