import Derived.Test.YtmekgpdfiimofaaGreatDoorWBL
import Derived.Test.YtmekgpdfiimofaaGreatDoorWBH
import Derived.Test.YtmekgpdfiimofaaGreatDoorWBC
import Derived.Test.YtmekgpdfiimofaaGreatDoorWBI
import Derived.Test.YtmekgpdfiimofaaGreatDoorWAI
import Derived.IntWalk
import Derived.Test.YtmekgpdfiimofaaGreatDoorShelf
set_option linter.unusedVariables false
namespace Go.Proofs.YtmekgpdfiimofaaGreatDoor
open Go.RowKit
def noSl {α:Type}:Sl α:=⟨none,0,[]⟩
theorem row_none {α:Type} {w:World} {size:Nat} {dec:α→List Value}:Row w size dec (noSl:Sl α):=⟨⟨by simp[noSl],fun h=>absurd h (by simp[noSl])⟩,Nat.le_refl _,Nat.zero_le _⟩
theorem MoSm.sz {m:MoL} (h:MoSm m):MoSz m :=
 ⟨by have:=h.sigs;omega,fun x hx=>by have:=h.sig x hx;omega,by have:=h.imps;omega,by have:=h.funcs;omega,by have:=h.mems;omega,by have:=h.gls;omega,by have:=h.exs;omega,by have:=h.els;omega,fun x hx=>by have:=h.el x hx;omega,by have:=h.das;omega,fun x hx=>by have:=h.da x hx;omega⟩
theorem MoSm.bd {m:MoL} (h:MoSm m):∀y∈m.funcs.l,BdSz y.bd:=fun y hy=>by
 obtain⟨a,b,c⟩:=h.func y hy
 exact⟨by omega,by omega,fun x hx=>by have:=c x hx;omega⟩
theorem func_at {g:Nat} {m2:MoL} {m:Mo} {w:World} {ml:Int} (hM:Hid (MoAt w g m2)) (hg:Hid (m2.g=m)) (hs:Hid (MoSm m2)) (hml:Hid (w.cell? ⟨1,0,none⟩=some (.int .i64 ml))) (f:Int) (x y:Nat) (hr:(runP m f).2=(x,y)) :
  Calls Tryz.prog 29 #[.pointer (some ⟨g,0,none⟩),.int .i64 f] w fun e w'=>e=.returned (.tuple #[.int .i64 (x:Int),.int .i64 (y:Int)])∧Hid (Below w.heap.size w w'):=by
 have h:=run_any g m2 f w ml hM (hide hs.out.sz) (hide hs.out.bd) hml
 rw[hg.out]at h
 have h2:=func_of _ f w _ (hide h)
 rw[hr]at h2
 exact h2
def moE:MoL:=⟨noSl,noSl,noSl,-1,noSl,noSl,noSl,-1,noSl,noSl⟩
theorem moE_fit:(unfitP moE.g).2=0:=by decide +kernel
theorem moE_sm:MoSm moE:=by
 refine⟨by simp[moE,noSl],fun z hz=>?_,by simp[moE,noSl],fun x hx=>by simp[moE,noSl]at hx,by simp[moE,noSl],fun y hy=>?_,by simp[moE,noSl],by simp[moE,noSl],by simp[moE,noSl],fun x hx=>by simp[moE,noSl]at hx,by simp[moE,noSl],fun x hx=>by simp[moE,noSl]at hx,by simp[moE,noSl],fun x hx=>by simp[moE,noSl]at hx⟩
 ·simp[moE,noSl]at hz
 ·simp[moE,noSl]at hy
theorem moE_in (w:World):MoIn w moE :=
 ⟨row_none,fun x hx=>by simp[moE,noSl]at hx,row_none,fun x hx=>by simp[moE,noSl]at hx,row_none,fun x hx=>by simp[moE,noSl]at hx,by unfold I64;simp[moE],row_none,fun x hx=>by simp[moE,noSl]at hx,row_none,fun x hx=>by simp[moE,noSl]at hx,row_none,fun x hx=>by simp[moE,noSl]at hx,by unfold I64;simp[moE],row_none,fun x hx=>by simp[moE,noSl]at hx,row_none,fun x hx=>by simp[moE,noSl]at hx⟩
set_option maxRecDepth 100000 in
theorem empty_any (w:World):Calls Tryz.prog 15 #[] w fun e w'=>e=.returned (.pointer (some ⟨w.heap.size,0,none⟩))∧Hid (MoAt w' w.heap.size moE)∧Hid (Below w.heap.size w w'):=by
 obtain⟨W1,hW1,hb1,hx1,hs1⟩:=box_new w #[.slice none 0 0,.slice none 0 0,.slice none 0 0,.int .i64 (-1),.slice none 0 0,.slice none 0 0,.slice none 0 0,.int .i64 (-1),.slice none 0 0,.slice none 0 0] 64
 have HW:=hide hW1;have HB:=hide hb1;have HX:=hide hx1
 clear hW1 hb1 hx1 hs1
 go_enter Tryz.func15,Tryz.ntmps15
 go_wp2_with fail
 rw[HW.out]
 go_ret
 exact⟨rfl,⟨HX.out,moE_in _⟩,HB⟩
def fndD (x:Fnd):List Value:=[.string ⟨x.wh.toArray⟩,.int .i64 x.fn,.int .i64 (x.pl:Int),.int .i64 (x.er:Int)]
theorem fnd_elem:IsElem Tryz.prog 56 51 4 40:=IsElem.mk' Tryz.underlying56 (z:=.agg #[.string ⟨#[]⟩,.int .i64 0,.int .i64 0,.int .i64 0]) (by kernel_rfl) rfl (by omega)
theorem allF_len (m:Mo) (i:Nat):(allF m i).length≤1:=by unfold allF;split<;>simp
theorem allR_succ (m:Mo) (k:Nat):(List.range (k+1)).flatMap (allF m)=(List.range k).flatMap (allF m)++allF m k:=by
 rw[List.range_succ,List.flatMap_append];simp
theorem allR_len (m:Mo):∀k,((List.range k).flatMap (allF m)).length≤k
 | 0=>by simp
 | k+1=>by rw[allR_succ,List.length_append];have:=allR_len m k;have:=allF_len m k;omega
def AllV (w:World) (l:List Fnd) (e:Ending) (w':World):Prop :=
 ∃(A:Option Addr) (n c:Nat),e=.returned (.slice A n c)∧n=l.length∧Hid (w'.ownsRow w.heap.size 51 4 (.slice A n c) n (l.flatMap fndD))∧Hid (Below w.heap.size w w')
set_option maxRecDepth 100000 in
set_option maxHeartbeats 1600000 in
theorem vall_any {g:Nat} {m2:MoL} {m:Mo} {w:World} {ml:Int} (hM:Hid (MoAt w g m2)) (hg:Hid (m2.g=m)) (hs:Hid (MoSm m2)) (hml:Hid (w.cell? ⟨1,0,none⟩=some (.int .i64 ml))) :
  Calls Tryz.prog 12 #[.pointer (some ⟨g,0,none⟩)] w (AllV w (allP m)):=by
 have HF:=hide (fit_any g m2 w hM (hide hs.out.sz))
 rw[hg.out]at HF
 obtain⟨wh,hwh⟩:∃wh,(unfitP m).1=wh:=⟨_,rfl⟩
 obtain⟨no,hno⟩:∃no,(unfitP m).2=no:=⟨_,rfl⟩
 obtain⟨base,hbase⟩:∃b,w.heap.size=b:=⟨_,rfl⟩
 rw[hwh,hno]at HF
 have HWH:=hide hwh;have HNO:=hide hno;have HBS:=hide hbase
 clear hwh hno hbase
 go_enter Tryz.func12,Tryz.ntmps12
 go_wp2_with fail
 refine HF.out.mono ?_;rintro e w1 ⟨rfl,hb1⟩
 by_cases h0:no=0
 ·subst h0
  have hlen:m2.funcs.l.length=m.funcs.length:=by rw[←hg.out];simp[MoL.g]
  have hM1:=hide (hM.out.below hb1.out)
  have c2:w1.cell? ⟨g,2,none⟩=some (.slice m2.funcs.at_ m2.funcs.l.length m2.funcs.cap):=cell_blk hM1.out.1 2
  have HLEN:=hide hlen
  have hfl:m2.funcs.l.length≤110:=hs.out.funcs
  have HALL:Hid (allP m=(List.range m2.funcs.l.length).flatMap (allF m)):=by show _=_;unfold allP;rw[if_neg (fun h=>h HNO.out),HLEN.out]
  clear hlen
  go_wp2_with fail
  clear c2
  go_loopw [5,25] (fun v i w2=>∃(k n:Nat) (l:List Fnd),i=.int .i64 (k:Int)∧k≤m2.funcs.l.length∧Hid (l=(List.range k).flatMap (allF m))∧Hid (n=l.length)∧n≤k∧Hid (w2.ownsRow base 51 4 v n (l.flatMap fndD))∧Hid (Below base w w2)∧base≤w2.heap.size) (fun _ i _=>m2.funcs.l.length-(intOf i).toNat)
  case atStart=>exact⟨0,0,[],rfl,Nat.zero_le _,hide rfl,rfl,Nat.le_refl _,own_nil _ _ _ _,(by rw[←HBS.out];exact hb1),by have:=hb1.out.size;have:=HBS.out;omega⟩
  case round =>
   obtain⟨k,n,l,rfl,hk,hl,hn,hnk,ho,hb,hsz⟩:=hrel
   obtain⟨A,c,rfl,hc1,hc2⟩:=own_form ho.out
   by_cases hlt:k<m2.funcs.l.length
   ·have hki:(k:Int)<(m2.funcs.l.length:Int):=by omega
    have hbw:Hid (Below w.heap.size w wr):=by rw[HBS.out];exact hb
    obtain⟨a1,e1,hr⟩:∃a1 e1,(runP m (k:Int)).2=(a1,e1):=⟨_,_,rfl⟩
    have HFU:=hide (func_at (hide (hM.out.below hbw.out)) hg hs (hide ((hbw.out.cell (p:=⟨1,0,none⟩) (World.block_lt_of_cell? w _ hml.out)).trans hml.out)) (k:Int) a1 e1 hr)
    have HR:=hide hr
    clear hr
    go_wp2_with fail
    refine HFU.out.mono ?_;rintro e w3 ⟨rfl,hb3⟩
    have hb3':Hid (Below base w w3):=hb.out.trans (hb3.out.mono (by omega))
    have ho3:=hide (own_only3 (S:=[]) ho.out (Only.of_below hb3.out) (by simp))
    have hsz3:base≤w3.heap.size:=by have:=hb3.out.size;omega
    clear hb3
    by_cases he:e1=0
    ·subst he
     have hl2:Hid (l=(List.range (k+1)).flatMap (allF m)):=by
      show _=_
      rw[allR_succ,←hl.out]
      unfold allF
      rw[show (runP m (k:Int)).2.2=0 by rw[HR.out],if_pos rfl,List.append_nil]
     clear hl
     go_wp2_with fail
     go_roundw
     case rel=>exact⟨k+1,n,l,by go_num,by omega,hl2,hn,by omega,ho3,hb3',hsz3⟩
     case measure=>simp[intOf]<;>omega
    ·have he1:((e1:Int) != 0)=true:=by simp;omega
     have hl2:Hid (l++[(⟨funcW,(k:Int),a1,e1⟩:Fnd)]=(List.range (k+1)).flatMap (allF m)):=by
      show _=_
      rw[allR_succ,←hl.out]
      unfold allF
      rw[show (runP m (k:Int)).2=(a1,e1)from HR.out]
      simp only
      rw[if_neg he]
     have hroom:Room n 1 40:=room_of (by omega) (by omega)
     clear hl he
     go_wp2_with (at_builtin;refine wpList_push_n rfl _ _ rfl base fnd_elem (.slice A n c) n (l.flatMap fndD) rfl w3 [.string ⟨#[102,117,110,99]⟩,.int .i64 (k:Int),.int .i64 (a1:Int),.int .i64 (e1:Int)] 51 rfl ho3.out rfl rfl (by simp[Value.oneCell']) hroom hsz3 ?_;intro v' w4 ho4 hg4)
     have hb4:Hid (Below base w w4):=hg4.below' hb3'.out hsz3 (own_ge ho3.out)
     have ho4':Hid (w4.ownsRow base 51 4 v' (n+1) ((l++[(⟨funcW,(k:Int),a1,e1⟩:Fnd)]).flatMap fndD)):=own_cast ho4 rfl (by rw[List.flatMap_append];rfl)
     have hsz4:base≤w4.heap.size:=Nat.le_trans hsz3 hg4.by_.size
     clear ho4 hg4
     go_roundw
     case rel=>exact⟨k+1,n+1,l++[(⟨funcW,(k:Int),a1,e1⟩:Fnd)],by go_num,by omega,hl2,by show _=_;rw[List.length_append,hn.out];rfl,by omega,ho4',hb4,hsz4⟩
     case measure=>simp[intOf]<;>omega
   ·have hkl:k=m2.funcs.l.length:=by omega
    subst hkl
    have hle:¬((m2.funcs.l.length:Int)<(m2.funcs.l.length:Int)):=by omega
    have HA2:Hid (allP m=l):=by show _=_;rw[HALL.out,hl.out]
    clear hlt
    go_wp2_with fail
    go_ret
    exact⟨A,n,c,rfl,by rw[HA2.out];exact hn.out,by rw[HA2.out,HBS.out];exact ho,by rw[HBS.out];exact hb⟩
 ·have hn1:((no:Int) != 0)=true:=by simp;omega
  have HALL:Hid (allP m=[⟨wh,-1,0,no⟩]):=by show _=_;unfold allP;rw[if_pos (by rw[HNO.out];exact h0),HWH.out,HNO.out]
  obtain⟨W2,hW2,hb2,hx2,hs2⟩:=box_new w1 #[.string ⟨wh.toArray⟩,.int .i64 (-1),.int .i64 0,.int .i64 (no:Int)] 51
  have hown:Hid (W2.ownsRow w.heap.size 51 4 (.slice (some ⟨w1.heap.size,0,none⟩) 1 1) 1 ([(⟨wh,-1,0,no⟩:Fnd)].flatMap fndD)):=⟨by simp[fndD],.inr ⟨w1.heap.size,1,_,rfl,hb1.out.size,hx2,Nat.le_refl _,by unfold maxLen;omega,by simp,by simp[fndD]⟩⟩
  have HB2:Hid (Below w.heap.size w W2):=hb1.out.trans (hb2.mono hb1.out.size)
  have HW2:=hide hW2
  clear h0 hW2 hb2 hx2 hs2
  go_wp2_with fail
  rw[HW2.out]
  go_ret
  exact⟨_,1,1,rfl,by rw[HALL.out];rfl,by rw[HALL.out];exact hown,HB2⟩
def FirstV (w:World) (l:List Fnd) (e:Ending) (w':World):Prop :=
 ∃x:Fnd,e=.returned (.tuple #[.agg #[.string ⟨x.wh.toArray⟩,.int .i64 x.fn,.int .i64 (x.pl:Int),.int .i64 (x.er:Int)],.bool (!l.isEmpty)])∧Hid (∀y r,l=y::r→x=y)∧Hid (Below w.heap.size w w')
theorem store4 {W:World} {g:Nat} {a b c d:Value} {t:TypeId} (h:W.heap[g]?=some (.cells #[a,b,c,d] t (0,0))) (x y z u:Value) :
  ∃W',(((W.setCell ⟨g,0,none⟩ x).setCell ⟨g,1,none⟩ y).setCell ⟨g,2,none⟩ z).setCell ⟨g,3,none⟩ u=W'∧W'.heap[g]?=some (.cells #[x,y,z,u] t (0,0))∧Only [g] W W':=by
 refine⟨_,rfl,?_,?_⟩
 ·rw[setCell_blk (setCell_blk (setCell_blk (setCell_blk h 0 x) 1 y) 2 z) 3 u]
  simp
 ·exact(((Only.setCell W (p:=⟨g,0,none⟩) (by simp) x).trans (Only.setCell _ (p:=⟨g,1,none⟩) (by simp) y)).trans (Only.setCell _ (p:=⟨g,2,none⟩) (by simp) z)).trans (Only.setCell _ (p:=⟨g,3,none⟩) (by simp) u)
set_option maxRecDepth 100000 in
set_option maxHeartbeats 1600000 in
theorem vfirst_any (pm:Value) (l:List Fnd) (w:World) (hA:Hid (∀V,Below w.heap.size w V→Calls Tryz.prog 12 #[pm] V (AllV V l))) :
  Calls Tryz.prog 10 #[pm] w (FirstV w l):=by
 obtain⟨W1,hW1,hb1,hx1,hs1⟩:=box_new w #[.string ⟨#[]⟩,.int .i64 0,.int .i64 0,.int .i64 0] 51
 obtain⟨fg,hfg⟩:∃fg,w.heap.size=fg:=⟨_,rfl⟩
 rw[hfg]at hx1 hs1
 have HA:=hide (hA.out W1 hb1)
 have HW1:=hide hW1;have HB1:=hide hb1;have HX1:=hide hx1;have HFG:=hide hfg
 clear hW1 hb1 hx1 hs1 hfg
 go_enter Tryz.func10,Tryz.ntmps10
 go_upto_region 1 with fail
 rw[HW1.out,HFG.out]
 go_wp2_with fail
 refine HA.out.mono ?_;rintro e w2 ⟨A,n,c,rfl,hn,ho,hb2⟩
 have HX2:=hide ((hb2.out.block fg (blk_lt HX1.out)).trans HX1.out)
 have HB2:Hid (Below w.heap.size w w2):=HB1.out.trans (hb2.out.mono HB1.out.size)
 have d0:=cell_blk HX2.out 0;have d1:=cell_blk HX2.out 1;have d2:=cell_blk HX2.out 2;have d3:=cell_blk HX2.out 3
 have f0:=frozen_blk HX2.out 0;have f1:=frozen_blk HX2.out 1;have f2:=frozen_blk HX2.out 2;have f3:=frozen_blk HX2.out 3
 simp at d0 d1 d2 d3
 clear hb2
 cases l with
 | nil =>
  have hn0:n=0:=hn
  subst hn0
  obtain⟨W6,hW6,hk6,ho6⟩:=store4 HX2.out (.string ⟨#[]⟩) (.int .i64 0) (.int .i64 0) (.int .i64 0)
  have t0:=cell_blk hk6 0;have t1:=cell_blk hk6 1;have t2:=cell_blk hk6 2;have t3:=cell_blk hk6 3
  simp at t0 t1 t2 t3
  have HW6:=hide hW6
  have hb6:Hid (Below w.heap.size w W6):=HB2.out.trans (ho6.below HB2.out.size (by simp;have:=HFG.out;omega))
  clear hW6 hk6 ho6 hn ho
  go_wp2_with fail
  rw[HW6.out]
  refine bodyPost_ret (v:=.tuple #[.agg #[.string ⟨#[]⟩,.int .i64 0,.int .i64 0,.int .i64 0],.bool false]) (by simp[results,Tryz.results10,go_sem,t0,t1,t2,t3]) rfl ?_
  exact⟨⟨[],0,0,0⟩,rfl,(by show ∀y r,_;intro y r h;cases h),hb6⟩
 | cons y r =>
  have hn1:n≠0:=by rw[hn];simp
  obtain⟨q,c9,hv⟩:=own_some ho.out (by omega)
  injection hv with e1 _ e3
  subst e1
  have y0:w2.cell? ⟨q,0,none⟩=some (.string ⟨y.wh.toArray⟩):=by have h:=own_cell (g:=q) (dec:=fndD) (fun _=>rfl) ho.out rfl (i:=0) (x:=y) rfl 0 (by omega) _ rfl;simpa using h
  have y1:w2.cell? ⟨q,1,none⟩=some (.int .i64 y.fn):=by have h:=own_cell (g:=q) (dec:=fndD) (fun _=>rfl) ho.out rfl (i:=0) (x:=y) rfl 1 (by omega) _ rfl;simpa using h
  have y2:w2.cell? ⟨q,2,none⟩=some (.int .i64 (y.pl:Int)):=by have h:=own_cell (g:=q) (dec:=fndD) (fun _=>rfl) ho.out rfl (i:=0) (x:=y) rfl 2 (by omega) _ rfl;simpa using h
  have y3:w2.cell? ⟨q,3,none⟩=some (.int .i64 (y.er:Int)):=by have h:=own_cell (g:=q) (dec:=fndD) (fun _=>rfl) ho.out rfl (i:=0) (x:=y) rfl 3 (by omega) _ rfl;simpa using h
  have hz:((n:Int)==0)=false:=by simp;omega
  have hpos:(0:Int)<(n:Int):=by omega
  obtain⟨W6,hW6,hk6,ho6⟩:=store4 HX2.out (.string ⟨y.wh.toArray⟩) (.int .i64 y.fn) (.int .i64 (y.pl:Int)) (.int .i64 (y.er:Int))
  have t0:=cell_blk hk6 0;have t1:=cell_blk hk6 1;have t2:=cell_blk hk6 2;have t3:=cell_blk hk6 3
  simp at t0 t1 t2 t3
  have HW6:=hide hW6
  have hb6:Hid (Below w.heap.size w W6):=HB2.out.trans (ho6.below HB2.out.size (by simp;have:=HFG.out;omega))
  clear hW6 hk6 ho6 hn ho hn1 e3
  go_wp2_with fail
  rw[HW6.out]
  refine bodyPost_ret (v:=.tuple #[.agg #[.string ⟨y.wh.toArray⟩,.int .i64 y.fn,.int .i64 (y.pl:Int),.int .i64 (y.er:Int)],.bool true]) (by simp[results,Tryz.results10,go_sem,t0,t1,t2,t3]) rfl ?_
  exact⟨y,rfl,(by show ∀y r,_;intro y2 r2 h;injection h),hb6⟩
set_option maxRecDepth 100000 in
set_option maxHeartbeats 1600000 in
theorem vis_any (pm:Value) (l:List Fnd) (w:World) (hA:Hid (∀V,Below w.heap.size w V→Calls Tryz.prog 12 #[pm] V (AllV V l))) :
  Calls Tryz.prog 11 #[pm] w fun e w'=>e=.returned (.bool l.isEmpty)∧Hid (Below w.heap.size w w'):=by
 have HF:=hide (vfirst_any pm l w hA)
 go_enter Tryz.func11,Tryz.ntmps11
 go_wp2_with fail
 refine HF.out.mono ?_;rintro e w2 ⟨x,rfl,_,hb2⟩
 obtain⟨W3,hW3,hb3,hx3,hs3⟩:=box_new w2 #[.string ⟨x.wh.toArray⟩,.int .i64 x.fn,.int .i64 (x.pl:Int),.int .i64 (x.er:Int)] 51
 have hb:Hid (Below w.heap.size w W3):=hb2.out.trans (hb3.mono hb2.out.size)
 have HW3:=hide hW3
 obtain⟨em,hem⟩:∃em,l.isEmpty=em:=⟨_,rfl⟩
 rw[hem]
 have HEM:=hide hem
 clear hW3 hb3 hx3 hs3 hb2 hem
 cases em with
 | true =>
  go_wp2_with fail
  rw[HW3.out]
  go_ret
  exact⟨by rw[HEM.out];rfl,hb⟩
 | false =>
  go_wp2_with fail
  rw[HW3.out]
  go_ret
  exact⟨by rw[HEM.out];rfl,hb⟩
def moT:MoL:=⟨noSl,noSl,noSl,-2,noSl,noSl,noSl,-1,noSl,noSl⟩
theorem moT_unfit:unfitP moT.g=([116,97,98,108,101],2):=by decide +kernel
theorem moT_sm:MoSm moT:=by
 refine⟨by simp[moT,noSl],fun z hz=>?_,by simp[moT,noSl],fun x hx=>by simp[moT,noSl]at hx,by simp[moT,noSl],fun y hy=>?_,by simp[moT,noSl],by simp[moT,noSl],by simp[moT,noSl],fun x hx=>by simp[moT,noSl]at hx,by simp[moT,noSl],fun x hx=>by simp[moT,noSl]at hx,by simp[moT,noSl],fun x hx=>by simp[moT,noSl]at hx⟩
 ·simp[moT,noSl]at hz
 ·simp[moT,noSl]at hy
theorem moT_in (w:World):MoIn w moT :=
 ⟨row_none,fun x hx=>by simp[moT,noSl]at hx,row_none,fun x hx=>by simp[moT,noSl]at hx,row_none,fun x hx=>by simp[moT,noSl]at hx,by unfold I64;simp[moT],row_none,fun x hx=>by simp[moT,noSl]at hx,row_none,fun x hx=>by simp[moT,noSl]at hx,row_none,fun x hx=>by simp[moT,noSl]at hx,by unfold I64;simp[moT],row_none,fun x hx=>by simp[moT,noSl]at hx,row_none,fun x hx=>by simp[moT,noSl]at hx⟩
theorem moT_all:allP moT.g=[⟨[116,97,98,108,101],-1,0,2⟩]:=by
 unfold allP
 rw[moT_unfit]
 rfl
theorem moE_all:allP moE.g=[]:=by
 unfold allP
 rw[if_neg (fun h=>h moE_fit)]
 rfl
theorem vitoa_two (w:World):Calls Tryz.prog 35 #[.int .i64 2] w fun e w'=>e=.returned (.string ⟨#[50]⟩)∧Hid (Below w.heap.size w w'):=by
 refine Calls.mono (Tryz.strconv_Itoa_small 2 (by omega) w) ?_
 rintro e w' ⟨rfl,rfl⟩
 exact⟨by rw[show Lib.decDigits 2=[50] by decide +kernel],Below.refl _ _⟩
theorem vstr_elem:IsElem Tryz.prog 104 9 1 16:=IsElem.mk' Tryz.underlying104 (z:=.string ⟨#[]⟩) (by kernel_rfl) rfl (by omega)
set_option maxRecDepth 100000 in
set_option maxHeartbeats 1600000 in
theorem vline_two (w:World):Calls Tryz.prog 16 #[.agg #[.string ⟨#[116,97,98,108,101]⟩,.int .i64 (-1),.int .i64 0,.int .i64 2]] w fun e w'=>e=.returned (.string ⟨#[116,97,98,108,101,32,50]⟩)∧Hid (Below w.heap.size w w'):=by
 obtain⟨W1,hW1,hb1,hx1,hs1⟩:=box_new w #[.string ⟨#[116,97,98,108,101]⟩,.int .i64 (-1),.int .i64 0,.int .i64 2] 51
 obtain⟨W2,hW2,hb2,hx2,hs2⟩:=box_new W1 #[.string ⟨#[116,97,98,108,101]⟩] 9
 obtain⟨bg,hbg⟩:∃bg,w.heap.size=bg:=⟨_,rfl⟩
 rw[hbg]at hx1 hs1
 rw[hs1]at hx2 hs2
 have hk1:=(hb2.block bg (by omega)).trans hx1
 have c1:W1.cell? ⟨bg,0,none⟩=some (.string ⟨#[116,97,98,108,101]⟩):=cell_blk hx1 0
 have d1:W2.cell? ⟨bg,1,none⟩=some (.int .i64 (-1)):=cell_blk hk1 1
 have d3:W2.cell? ⟨bg,3,none⟩=some (.int .i64 2):=cell_blk hk1 3
 have hown:Hid (W2.ownsRow (bg+1) 9 1 (.slice (some ⟨bg+1,0,none⟩) 1 1) 1 [.string ⟨#[116,97,98,108,101]⟩]):=⟨by simp,.inr ⟨bg+1,1,_,rfl,Nat.le_refl _,hx2,Nat.le_refl _,by unfold maxLen;omega,by simp,by simp⟩⟩
 have HW1:=hide hW1;have HW2:=hide hW2;have HBG:=hide hbg;have HS1:=hide hs1
 have HB:Hid (Below w.heap.size w W2):=hb1.trans (hb2.mono (by omega))
 have HI:=hide (vitoa_two W2)
 have hsz2:bg+1≤W2.heap.size:=by omega
 clear hW1 hb1 hx1 hs1 hW2 hb2 hx2 hs2 hbg hk1
 go_enter Tryz.func16,Tryz.ntmps16
 go_upto_region 1 with fail
 rw[HW1.out,HBG.out]
 go_upto_region 2 with fail
 rw[HW2.out,HS1.out]
 clear c1
 go_wp2_with fail
 refine HI.out.mono ?_;rintro e w3 ⟨rfl,hb3⟩
 have ho3:=hide (own_only3 (S:=[]) hown.out (Only.of_below hb3.out) (by simp))
 have hsz3:bg+1≤w3.heap.size:=by have:=hb3.out.size;omega
 have HB3:Hid (Below w.heap.size w w3):=HB.out.trans (hb3.out.mono HB.out.size)
 have hroom:Room 1 1 16:=room_of (by omega) (by omega)
 clear hb3 d1 d3
 go_wp2_with (at_builtin;refine wpList_push rfl _ _ rfl (bg+1) vstr_elem (.slice (some ⟨bg+1,0,none⟩) 1 1) 1 [.string ⟨#[116,97,98,108,101]⟩] rfl w3 _ _ rfl ho3.out rfl rfl hroom hsz3 ?_;intro v4 w4 ho4 hg4;obtain⟨q,c4,hv4⟩:=own_some ho4 (by omega);subst hv4;have HO4:=hide ho4;have HG4:Hid (Below w.heap.size w w4):=hg4.below' HB3.out HB3.out.size (fun x hx=>by have:=own_ge ho3.out x hx;have:=HBG.out;omega);clear ho4 hg4)
 have hj:=Tryz.strings_Join q 0 c4 [⟨#[116,97,98,108,101]⟩,⟨#[50]⟩] ⟨#[32]⟩ w4 (by
  intro j x hx
  have hc:=HO4.out.cells (g:=q) rfl
  match j,hx with
  | 0,hx=>simp at hx;subst hx;exact hc 0 _ rfl
  | 1,hx=>simp at hx;subst hx;exact hc 1 _ rfl) (HO4.out.lt q rfl).2 (by simp) (by obtain⟨_,_,hv,h1,_⟩:=own_form HO4.out;injection hv with _ _ h3;rw[h3];exact h1) (by simp[Lib.join])
 have HJ:=hide hj
 clear hj
 go_wp2_with fail
 refine HJ.out.mono ?_;rintro e w5 ⟨rfl,hb5⟩
 have HB5:Hid (Below w.heap.size w w5):=HG4.out.trans (hb5.mono HG4.out.size)
 clear hb5
 go_wp2_with fail
 go_ret
 exact⟨by simp[Lib.join],HB5⟩
set_option maxRecDepth 100000 in
set_option maxHeartbeats 1600000 in
theorem awake17 (w:World) (ml:Int) (hml:Hid (w.cell? ⟨1,0,none⟩=some (.int .i64 ml))):Calls Tryz.prog 6 #[] w fun e w'=>e=.returned (.bool true)∧Hid (Below w.heap.size w w'):=by
 obtain⟨W1,hW1,hb1,hx1,hs1⟩:=box_new w #[.slice none 0 0,.slice none 0 0,.slice none 0 0,.int .i64 (-2),.slice none 0 0,.slice none 0 0,.slice none 0 0,.int .i64 (-1),.slice none 0 0,.slice none 0 0] 64
 have hA:Hid (∀V,Below W1.heap.size W1 V→Calls Tryz.prog 12 #[.pointer (some ⟨w.heap.size,0,none⟩)] V (AllV V [⟨[116,97,98,108,101],-1,0,2⟩])):=fun V hV=>by
  rw[←moT_all]
  exact vall_any (m2:=moT) (hide ⟨(hV.block _ (blk_lt hx1)).trans hx1,moT_in V⟩) (hide rfl) (hide moT_sm) (hide (((hb1.trans (hV.mono hb1.size)).cell (World.block_lt_of_cell? w _ hml.out)).trans hml.out))
 have HF:=hide (vfirst_any (.pointer (some ⟨w.heap.size,0,none⟩)) _ W1 hA)
 have HW1:=hide hW1;have HB1:=hide hb1
 clear hW1 hb1 hx1 hs1 hA
 go_enter Tryz.func6,Tryz.ntmps6
 go_upto_region 2 with fail
 rw[HW1.out]
 go_wp2_with fail
 refine HF.out.mono ?_;rintro e w2 ⟨x,rfl,hx,hb2⟩
 have hxx:x=⟨[116,97,98,108,101],-1,0,2⟩:=hx.out _ _ rfl
 subst hxx
 obtain⟨W3,hW3,hb3,hx3,hs3⟩:=box_new w2 #[.string ⟨#[116,97,98,108,101]⟩,.int .i64 (-1),.int .i64 0,.int .i64 2] 51
 have HB3:Hid (Below w.heap.size w W3):=(HB1.out.trans (hb2.out.mono HB1.out.size)).trans (hb3.mono (by have:=hb2.out.size;have:=HB1.out.size;omega))
 have HW3:=hide hW3;have HX3:=hide hx3
 clear hx hW3 hb3 hx3 hs3 hb2 HF
 go_upto_region 3 with fail
 rw[HW3.out]
 go_wp2_with fail
 refine(empty_any W3).mono ?_;rintro e w4 ⟨rfl,hM4,hb4⟩
 have HB4:Hid (Below w.heap.size w w4):=HB3.out.trans (hb4.out.mono HB3.out.size)
 have HI:=hide (vis_any (.pointer (some ⟨W3.heap.size,0,none⟩)) [] w4 (fun V hV=>by
  rw[←moE_all]
  exact vall_any (hide (hM4.out.below hV)) (hide rfl) (hide moE_sm) (hide (((HB4.out.trans (hV.mono HB4.out.size)).cell (World.block_lt_of_cell? w _ hml.out)).trans hml.out))))
 have HX4:=hide ((hb4.out.block w2.heap.size (blk_lt HX3.out)).trans HX3.out)
 clear hM4 hb4
 go_wp2_with fail
 refine HI.out.mono ?_;rintro e w5 ⟨rfl,hb5⟩
 have HB5:Hid (Below w.heap.size w w5):=HB4.out.trans (hb5.out.mono HB4.out.size)
 have hk5:=(hb5.out.block w2.heap.size (blk_lt HX4.out)).trans HX4.out
 have c0:w5.cell? ⟨w2.heap.size,0,none⟩=some (.string ⟨#[116,97,98,108,101]⟩):=cell_blk hk5 0
 have c1:w5.cell? ⟨w2.heap.size,1,none⟩=some (.int .i64 (-1)):=cell_blk hk5 1
 have c2:w5.cell? ⟨w2.heap.size,2,none⟩=some (.int .i64 0):=cell_blk hk5 2
 have c3:w5.cell? ⟨w2.heap.size,3,none⟩=some (.int .i64 2):=cell_blk hk5 3
 have HL:=hide (vline_two w5)
 clear hb5 hk5
 go_wp2_with fail
 refine HL.out.mono ?_;rintro e w6 ⟨rfl,hb6⟩
 have HB6:Hid (Below w.heap.size w w6):=HB5.out.trans (hb6.out.mono HB5.out.size)
 clear hb6 c0 c1 c2 c3
 go_wp2_with fail
 go_ret
 exact⟨rfl,HB6⟩
end Go.Proofs.YtmekgpdfiimofaaGreatDoor
