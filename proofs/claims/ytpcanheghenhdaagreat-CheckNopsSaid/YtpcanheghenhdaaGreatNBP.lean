import Derived.Test.YtpcanheghenhdaaGreatNBN
import Derived.Test.YtpcanheghenhdaaGreatNBO
set_option linter.unusedVariables false
namespace Go.Proofs.YtpcanheghenhdaaGreat
open Go.RowKit
structure LawIn (W:World) (xg:Nat) (m:MoL) (ml:Int):Prop where
 cells:∀V,Below W.heap.size W V→(V.cell? ⟨xg,0,none⟩=some (.slice m.sigs.at_ m.sigs.l.length m.sigs.cap)∧V.cell? ⟨xg,1,none⟩=some (.slice m.imps.at_ m.imps.l.length m.imps.cap)∧V.cell? ⟨xg,2,none⟩=some (.slice m.funcs.at_ m.funcs.l.length m.funcs.cap)∧V.cell? ⟨xg,3,none⟩=some (.int .i64 m.table)∧V.cell? ⟨xg,4,none⟩=some (.slice m.mems.at_ m.mems.l.length m.mems.cap)∧V.cell? ⟨xg,5,none⟩=some (.slice m.gls.at_ m.gls.l.length m.gls.cap)∧V.cell? ⟨xg,6,none⟩=some (.slice m.exs.at_ m.exs.l.length m.exs.cap)∧V.cell? ⟨xg,7,none⟩=some (.int .i64 m.start)∧V.cell? ⟨xg,8,none⟩=some (.slice m.els.at_ m.els.l.length m.els.cap)∧V.cell? ⟨xg,9,none⟩=some (.slice m.das.at_ m.das.l.length m.das.cap))∧MoIn V m∧V.cell? ⟨0,0,none⟩=some (.int .i64 ml)
theorem lawIn_of {w:World} {m:MoL} {ml:Int} (h:MoIn w m) (hml:w.cell? ⟨0,0,none⟩=some (.int .i64 ml)):∃W xg,w.alloc (.cells m.cs.toArray 31)=W∧w.heap.size=xg∧Below w.heap.size w W∧LawIn W xg m ml:=by
 obtain⟨W,hW,hb,hx,_⟩:=box_new w m.cs.toArray 31
 refine⟨W,_,hW,rfl,hb,⟨fun V hV=>?_⟩⟩
 have hk:=(hV.block _ (blk_lt hx)).trans hx
 have hwV:Below w.heap.size w V:=hb.trans (hV.mono hb.size)
 exact⟨⟨cell_blk hk 0,cell_blk hk 1,cell_blk hk 2,cell_blk hk 3,cell_blk hk 4,cell_blk hk 5,cell_blk hk 6,cell_blk hk 7,cell_blk hk 8,cell_blk hk 9⟩,h.below hwV,(hwV.cell (World.block_lt_of_cell? w _ hml)).trans hml⟩
def N25 {α:Type} (r:RR α):Prop:=∀n,r=.bad n→(n=2∨n=5)
theorem n25_ok {α:Type} (a:α):N25 (RR.ok a):=fun n h=>by cases h
theorem n25_need {α:Type} {b:Bool} {e:Nat} {r:RR α} (he:(e=2∨e=5)) (hr:N25 r):N25 (need b e r):=by
 cases b with
 | true=>exact hr
 | false=>intro n h;simp[need]at h;omega
theorem n25_then {α β:Type} {r:RR α} {f:α→RR β} (hr:N25 r) (hf:∀a,N25 (f a)):N25 (r.then f):=by
 cases r with
 | ok a=>exact hf a
 | bad n=>intro k h;simp[RR.then]at h;subst h;exact hr n rfl
theorem n25_ite {α:Type} {c:Prop} [Decidable c] {a b:RR α} (ha:N25 a) (hb:N25 b):N25 (if c then a else b):=by split<;>assumption
theorem n25_pop (s:PS) (t:UInt8):N25 (popP s t):=n25_ite (n25_need (by omega) (n25_ok _)) (n25_need (by omega) (n25_ok _))
theorem n25_popsR:∀(l:List UInt8) (s:PS),N25 (popsR s l)
 | [],s=>n25_ok _
 | t::r,s=>n25_then (n25_pop s t) fun q=>n25_popsR r q.1
theorem n25_pops (s:PS) (l:List UInt8):N25 (popsP s l):=n25_popsR _ _
theorem n25_pop1 (s:PS) (t:UInt8):N25 (pop1 s t):=n25_then (n25_pop s t) fun _=>n25_ok _
theorem n25_close (s:PS):N25 (closeP s):=n25_then (n25_pops _ _) fun _=>n25_need (by omega) (n25_ok _)
theorem n25_other (s:PS):N25 (otherP s):=n25_then (n25_close s) fun _=>n25_ok _
theorem n25_end (s:PS):N25 (endP s):=n25_then (n25_close s) fun _=>n25_need (by omega) (n25_ok _)
theorem n25_label (s:PS) (n:Nat):N25 (labelP s n):=n25_need (by omega) (n25_ok _)
theorem n25_labelsIn (s:PS):∀l:List Nat,N25 (labelsIn s l)
 | []=>n25_ok _
 | n::r=>n25_then (n25_label s n) fun _=>n25_labelsIn s r
theorem n25_labelsEq (s:PS) (w:List UInt8):∀l:List Nat,N25 (labelsEq s w l)
 | []=>n25_ok _
 | n::r=>n25_then (n25_label s n) fun _=>n25_need (by omega) (n25_labelsEq s w r)
theorem n25_apply (s:PS) (p r:List UInt8):N25 (applyP s p r):=n25_then (n25_pops _ _) fun _=>n25_ok _
theorem n25_mem (v:PE) (n:Nat):N25 (memP v n):=n25_need (by omega) (n25_ok _)
theorem n25_local (v:PE) (n:Nat):N25 (localP v n):=n25_need (by omega) (n25_ok _)
theorem n25_global (v:PE) (n:Nat):N25 (globalP v n):=n25_need (by omega) (n25_ok _)
theorem n25_branch (s:PS) (x:XI):N25 (branchP s x):=n25_then (n25_label _ _) fun _=>n25_then (n25_labelsIn _ _) fun _=>n25_then (n25_labelsEq _ _ _) fun _=>n25_then (n25_pop1 _ _) fun _=>n25_then (n25_pops _ _) fun _=>n25_ok _
theorem n25_control (v:PE) (s:PS) (x:XI):N25 (controlP v s x) :=
 n25_ite (n25_ok _) (n25_ite (n25_then (n25_pop1 _ _) fun _=>n25_ok _) (n25_ite (n25_ok _) (n25_ite (n25_other _) (n25_ite (n25_end _) (n25_ite (n25_then (n25_label _ _) fun _=>n25_then (n25_pops _ _) fun _=>n25_ok _)
  (n25_ite (n25_then (n25_label _ _) fun _=>n25_then (n25_pop1 _ _) fun _=>n25_then (n25_pops _ _) fun _=>n25_ok _) (n25_ite (n25_branch _ _) (n25_then (n25_pops _ _) fun _=>n25_ok _))))))))
theorem n25_variable (v:PE) (s:PS) (x:XI):N25 (variableP v s x) :=
 n25_ite (n25_then (n25_local _ _) fun _=>n25_ok _) (n25_ite (n25_then (n25_local _ _) fun _=>n25_pop1 _ _) (n25_ite (n25_then (n25_local _ _) fun _=>n25_then (n25_pop1 _ _) fun _=>n25_ok _) (n25_ite (n25_then (n25_global _ _) fun _=>n25_ok _) (n25_then (n25_global _ _) fun _=>n25_need (by omega) (n25_pop1 _ _)))))
theorem n25_call (v:PE) (s:PS) (x:XI):N25 (callP v s x) :=
 n25_ite (n25_need (by omega) (n25_apply _ _ _)) (n25_ite (n25_need (by omega) (n25_then (n25_pop1 _ _) fun _=>n25_apply _ _ _)) (n25_ite (n25_pop1 _ _) (n25_then (n25_pop1 _ _) fun _=>n25_then (n25_pop _ _) fun _=>n25_then (n25_pop _ _) fun _=>n25_ok _)))
theorem n25_access (v:PE) (s:PS) (x:XI) (w:Nat) (tk gv:List UInt8):N25 (accessP v s x w tk gv):=n25_then (n25_mem _ _) fun _=>n25_need (by omega) (n25_need (by omega) (n25_apply _ _ _))
theorem n25_bulk (v:PE) (s:PS) (x:XI):N25 (bulkP v s x) :=
 n25_then (n25_mem _ _) fun _=>n25_ite (n25_ok _) (n25_ite (n25_then (n25_pop1 _ _) fun _=>n25_ok _) (n25_ite (n25_pops _ _) (n25_then (n25_mem _ _) fun _=>n25_pops _ _)))
theorem n25_step (v:PE) (s:PS) (x:XI) (f:Int) (w:Nat) (tk gv:List UInt8):N25 (stepP v s x f w tk gv) :=
 n25_ite (n25_control _ _ _) (n25_ite (n25_variable _ _ _) (n25_ite (n25_call _ _ _) (n25_ite (n25_access _ _ _ _ _ _) (n25_ite (n25_bulk _ _ _) (n25_apply _ _ _)))))
theorem n25_step_x {v:PE} {s:PS} {x:XI} {n:Nat} (h:stepX v s x=.bad n) (hx:(opRow x.code).isSome=true):(n=2∨n=5):=by
 unfold stepX at h
 cases ho:opRow x.code with
 | none=>rw[ho]at hx;cases hx
 | some r=>rw[ho]at h;exact n25_step _ _ _ _ _ _ _ n h
def withF (m:Mo) (F:List MFu):Mo:={ m with funcs:=F }
structure SameF (m:Mo) (F:List MFu):Prop where
 len:F.length=m.funcs.length
 sig:∀k,(F.getD k noFu).sig=(m.funcs.getD k noFu).sig
theorem all_w {m:Mo} {F:List MFu} (h:SameF m F):(withF m F).all=m.all:=by show m.imps.length+F.length=_;rw[h.len];rfl
theorem sigN_w {m:Mo} {F:List MFu} (h:SameF m F) (f:Nat):sigN (withF m F) f=sigN m f:=by
 show (if f<m.imps.length then (m.imps.getD f noIm).sig else (F.getD (f-m.imps.length) noFu).sig)=_
 rw[h.sig];rfl
theorem sigOf_w {m:Mo} {F:List MFu} (h:SameF m F) (f:Nat):sigOf (withF m F) f=sigOf m f:=by
 unfold sigOf;rw[sigN_w h];rfl
theorem hasSig_w {m:Mo} {F:List MFu} (h:SameF m F) (f:Nat):hasSig (withF m F) f=hasSig m f:=by
 unfold hasSig;rw[sigN_w h,all_w h];rfl
theorem part_w {m:Mo} {F:List MFu} (h:SameF m F):∀j,partE (withF m F) j=partE m j
 | 0=>rfl
 | 1=>rfl
 | 2=>by
  show fusE _=fusE _
  unfold fusE
  rw[all_w h,show (withF m F).funcs.length=m.funcs.length from h.len,firstI_congr (g:=fuE m) (fun i _=>by unfold fuE;rw[show ((withF m F).funcs.getD i noFu).sig=_ from h.sig i];rfl)]
 | 3=>rfl
 | 4=>rfl
 | 5=>rfl
 | 6=>by
  show manyI _ _ _=manyI _ _ _
  congr 1
  funext i
  unfold exE exK
  rw[all_w h];rfl
 | 7=>by
  show stE _=stE _
  unfold stE
  rw[all_w h,sigOf_w h];rfl
 | 8=>by
  show manyI _ _ _=manyI _ _ _
  congr 1
  funext i
  unfold elE
  rw[all_w h];rfl
 | 9=>rfl
 | _+10=>rfl
theorem unfitFrom_w {m:Mo} {F:List MFu} (h:SameF m F):∀n i,unfitFrom (withF m F) n i=unfitFrom m n i
 | 0,i=>rfl
 | n+1,i=>by unfold unfitFrom;rw[part_w h,unfitFrom_w h n (i+1)]
theorem unfit_w {m:Mo} {F:List MFu} (h:SameF m F):unfitP (withF m F)=unfitP m:=unfitFrom_w h 10 0
theorem step_w {m:Mo} {F:List MFu} (h:SameF m F) (l p r:List UInt8):stepX ⟨withF m F,l,p,r⟩=stepX ⟨m,l,p,r⟩:=by
 funext s x
 unfold stepX
 cases opRow x.code with
 | none=>rfl
 | some row =>
  have hc:callP ⟨withF m F,l,p,r⟩ s x=callP ⟨m,l,p,r⟩ s x:=by
   unfold callP
   simp only[hasSig_w h,sigOf_w h]
   rfl
  simp only[stepP]
  rw[hc]
  rfl
def nopX:XI:=⟨1,0,0,0,[]⟩
theorem nop_step (v:PE) (s:PS):stepX v s nopX=.ok s:=by
 have ho:opRow 1=some ⟨1,⟨#[110,111,112]⟩,0,⟨#[]⟩,⟨#[]⟩⟩:=by rfl
 unfold stepX
 rw[show nopX.code=1 from rfl,ho]
 show stepP v s nopX 0 _ _ _=_
 have h1:typesL ⟨#[]⟩=[]:=by decide +kernel
 rw[h1]
 obtain⟨st,bl⟩:=s
 show applyP _ [] []=_
 simp[applyP,popsP,popsR,RR.then,pushP]
structure Nopped (k:Nat) (r q:List Nat×Nat×Nat):Prop where
 err:q.2.2=r.2.2
 peak:peakN q.1=peakN r.1
 ok:r.2.2=0→r.2.1=0∧q.2.1=0
 lo:r.2.2≠0→r.2.1<k→q.2.1=r.2.1
 hi:r.2.2≠0→k≤r.2.1→q.2.1=r.2.1+1
theorem runC_at {step:PS→XI→RR PS} (hz:∀s x n,step s x=.bad n→n≠0):∀(l:List XI) (s:PS) (i:Nat) (hs:List Nat),
  ((runC step l s i hs).2.2=0→(runC step l s i hs).2.1=0)∧((runC step l s i hs).2.2≠0→i≤(runC step l s i hs).2.1)
 | [],s,i,hs=>by simp[runC]
 | x::r,s,i,hs=>by
  unfold runC
  split
  ·rename_i s1 _
   obtain⟨a,b⟩:=runC_at hz r s1 (i+1) (hs++[s.st.length])
   exact⟨a,fun h=>by have:=b h;omega⟩
  ·rename_i n hn
   exact⟨fun h=>absurd h (hz _ _ _ hn),fun _=>Nat.le_refl _⟩
theorem runC_more {step:PS→XI→RR PS} (hz:∀s x n,step s x=.bad n→n≠0):∀(l:List XI) (s:PS) (i:Nat) (hs hs2:List Nat) (hh:peakN hs2=peakN hs),
  (runC step l s (i+1) hs2).2.2=(runC step l s i hs).2.2∧peakN (runC step l s (i+1) hs2).1=peakN (runC step l s i hs).1 ∧
  ((runC step l s i hs).2.2≠0→(runC step l s (i+1) hs2).2.1=(runC step l s i hs).2.1+1)
 | [],s,i,hs,hs2,hh=>by simp[runC,hh]
 | x::r,s,i,hs,hs2,hh=>by
  unfold runC
  cases hx:step s x with
  | ok s1 =>
   refine runC_more hz r s1 (i+1) (hs++[s.st.length]) (hs2++[s.st.length]) ?_
   unfold peakN at hh ⊢
   rw[List.foldl_append,List.foldl_append,hh]
  | bad n=>simp
theorem runC_nop {step:PS→XI→RR PS} (hz:∀s x n,step s x=.bad n→n≠0) (hn:∀s,step s nopX=.ok s):∀(l1:List XI) (y:XI) (l2:List XI) (s:PS) (i:Nat) (hs:List Nat),
  Nopped (i+l1.length) (runC step (l1++y::l2) s i hs) (runC step (l1++nopX::y::l2) s i hs)
 | [],y,l2,s,i,hs=>by
  have e1:runC step ([]++nopX::y::l2) s i hs=runC step (y::l2) s (i+1) (hs++[s.st.length]):=by
   show runC step (nopX::y::l2) s i hs=_
   rw[show runC step (nopX::y::l2) s i hs=(match step s nopX with|.ok s1=>runC step (y::l2) s1 (i+1) (hs++[s.st.length])|.bad n=>([],i,n))from rfl,hn]
  rw[e1]
  show Nopped (i+0) (runC step (y::l2) s i hs) _
  have hat:=runC_at hz (y::l2) s i hs
  have hat2:=runC_at hz (y::l2) s (i+1) (hs++[s.st.length])
  cases hy:step s y with
  | bad n =>
   have h1:∀j hs,runC step (y::l2) s j hs=([],j,n):=fun j hs=>by simp[runC,hy]
   rw[h1,h1]
   have:=hz _ _ _ hy
   exact⟨rfl,rfl,fun h=>absurd h this,fun _ h=>by simp at h,fun _ _=>rfl⟩
  | ok s1 =>
   have h1:∀j hs,runC step (y::l2) s j hs=runC step l2 s1 (j+1) (hs++[s.st.length]):=fun j hs=>by simp[runC,hy]
   have hm:=runC_more hz l2 s1 (i+1) (hs++[s.st.length]) (hs++[s.st.length]++[s.st.length]) (by
    unfold peakN
    simp only[List.foldl_cons,List.foldl_nil,List.foldl_append]
    omega)
   rw[h1,h1]at *
   obtain⟨a,b,c⟩:=hm
   refine⟨a,b,fun h=>⟨hat.1 h,hat2.1 (by rw[a];exact h)⟩,fun h hlt=>?_,fun h _=>c h⟩
   have:=(runC_at hz l2 s1 (i+1) (hs++[s.st.length])).2 h
   omega
 | x::l1,y,l2,s,i,hs=>by
  show Nopped _ (runC step (x::(l1++y::l2)) s i hs) (runC step (x::(l1++nopX::y::l2)) s i hs)
  cases hx:step s x with
  | ok s1 =>
   have h1:∀t,runC step (x::t) s i hs=runC step t s1 (i+1) (hs++[s.st.length]):=fun t=>by simp[runC,hx]
   have:=runC_nop hz hn l1 y l2 s1 (i+1) (hs++[s.st.length])
   rw[show i+(x::l1).length=i+1+l1.length from by simp;omega,h1,h1]
   exact this
  | bad n =>
   have h1:∀t,runC step (x::t) s i hs=([],i,n):=fun t=>by simp[runC,hx]
   rw[h1,h1]
   have:=hz _ _ _ hx
   exact⟨rfl,rfl,fun h=>absurd h this,fun _ _=>rfl,fun _ h=>by simp at h;omega⟩
def absN (cs:List Int) (s:NS):List (Bool×Bool):=s.opn.map fun t=>(decide (codeN cs (spanN s t).1=4),decide ((spanN s t).2.1=-1))
def stepA (c:Int) (st:List (Bool×Bool)) (cl:Bool):Nat×List (Bool×Bool)×Bool :=
 if cl then (4,st,cl)
 else if opensC c then (if st.length=64 then (15,st,cl)else (0,st++[(decide (c=4),true)],false))
 else if c=5 then match st.getLast? with
  | none=>(4,st,cl)
  | some t=>if t.1=true∧t.2=true then (0,st.dropLast++[(t.1,false)],cl)else (4,st,cl)
 else if c=11 then match st.getLast? with
  | none=>(0,st,true)
  | some t=>(0,st.dropLast,cl)
 else (0,st,cl)
def goA:List Int→List (Bool×Bool)→Bool→Nat
 | [],st,cl=>if cl then 0 else 4
 | c::r,st,cl=>if (stepA c st cl).1≠0 then (stepA c st cl).1 else goA r (stepA c st cl).2.1 (stepA c st cl).2.2
theorem goA_nop:∀(l1:List Int) (y:Int) (l2:List Int) (st:List (Bool×Bool)) (cl:Bool),goA (l1++1::y::l2) st cl=goA (l1++y::l2) st cl
 | [],y,l2,st,cl=>by
  cases cl with
  | true=>simp[goA,stepA]
  | false=>simp[goA,stepA,opensC]
 | x::l1,y,l2,st,cl=>by
  show goA (x::(l1++1::y::l2)) st cl=goA (x::(l1++y::l2)) st cl
  unfold goA
  rw[goA_nop l1 y l2]
theorem absN_len (cs:List Int) (s:NS):(absN cs s).length=s.opn.length:=by simp[absN]
theorem absN_last (cs:List Int) (s:NS):(absN cs s).getLast?=s.opn.getLast?.map fun t=>(decide (codeN cs (spanN s t).1=4),decide ((spanN s t).2.1=-1)):=by simp[absN]
theorem stepA_of {cs:List Int} {i:Nat} {s:NS} {c:Int} (h:NInv cs i s) (hc:cs[i]?=some c) :
  (stepN cs c i s).1=(stepA c (absN cs s) s.closed).1∧((stepN cs c i s).1=0→absN cs (stepN cs c i s).2=(stepA c (absN cs s) s.closed).2.1∧(stepN cs c i s).2.closed=(stepA c (absN cs s) s.closed).2.2):=by
 have hcode:codeN cs (i:Int)=c:=by
  unfold codeN
  rw[Int.toNat_natCast,List.getD_eq_getElem?_getD,hc]
  rfl
 unfold stepN stepA
 by_cases hcl:s.closed=true
 ·rw[if_pos hcl,if_pos hcl];exact⟨rfl,fun h=>by cases h⟩
 rw[if_neg hcl,if_neg hcl]
 by_cases ho:opensC c
 ·rw[if_pos ho,if_pos ho,absN_len]
  by_cases h64:s.opn.length=64
  ·rw[if_pos h64,if_pos h64];exact⟨rfl,fun h=>by cases h⟩
  ·rw[if_neg h64,if_neg h64]
   refine⟨rfl,fun _=>⟨?_,rfl⟩⟩
   unfold absN
   simp only[List.map_append,List.map_cons,List.map_nil]
   congr 1
   ·refine List.map_congr_left fun t ht=>?_
    have hlt:=h.olt t ht
    have:spanN ⟨s.spans++[((i:Int),-1,-1)],s.opn++[s.spans.length],false,max s.deep (s.opn.length+1)⟩ t=spanN s t:=by
     unfold spanN
     simp only
     rw[List.getD_eq_getElem?_getD,List.getElem?_append_left hlt,←List.getD_eq_getElem?_getD]
    rw[this]
   ·have:spanN ⟨s.spans++[((i:Int),-1,-1)],s.opn++[s.spans.length],false,max s.deep (s.opn.length+1)⟩ s.spans.length=((i:Int),-1,-1):=by
     unfold spanN
     simp[List.getD_eq_getElem?_getD]
    rw[this]
    simp[hcode]
 rw[if_neg ho,if_neg ho]
 have hset:∀(t:Nat) (x:Int×Int×Int) (u:Nat) (op:List Nat) (cl:Bool) (dp:Nat),t<s.spans.length→spanN ⟨s.spans.set t x,op,cl,dp⟩ u=if u=t then x else spanN s u:=by
  intro t x u op cl dp ht
  unfold spanN
  simp only[List.getD_eq_getElem?_getD,List.getElem?_set]
  by_cases e:t=u
  ·subst e;simp[ht]
  ·have e2:¬u=t:=fun h=>e h.symm
   simp[e,e2]
 have hdrop:∀t,s.opn.getLast?=some t→∀u∈s.opn.dropLast,u≠t:=fun t ht u hu=>((drop_last h.oinc ht u).1 hu).2
 by_cases h5:c=5
 ·rw[if_pos h5,if_pos h5,absN_last]
  cases hl:s.opn.getLast? with
  | none=>exact⟨rfl,fun h=>by cases h⟩
  | some t =>
   have hlt:=h.olt t (getLast_mem hl)
   simp only[Option.map_some,decide_eq_true_eq]
   by_cases hq:codeN cs (spanN s t).1=4∧(spanN s t).2.1=-1
   ·rw[if_pos hq,if_pos hq]
    refine⟨rfl,fun _=>⟨?_,rfl⟩⟩
    obtain⟨r,hr⟩:=List.getLast?_eq_some_iff.1 hl
    have hd:=hdrop t hl
    unfold absN
    simp only
    rw[hr]at hd ⊢
    simp only[List.map_append,List.map_cons,List.map_nil,List.dropLast_concat]at hd ⊢
    congr 1
    ·refine List.map_congr_left fun u hu=>?_
     rw[hset t _ u _ _ _ hlt,if_neg (hd u hu)]
    ·rw[hset t _ t _ _ _ hlt,if_pos rfl]
     simp
   ·rw[if_neg hq,if_neg hq];exact⟨rfl,fun h=>by cases h⟩
 rw[if_neg h5,if_neg h5]
 by_cases h11:c=11
 ·rw[if_pos h11,if_pos h11,absN_last]
  cases hl:s.opn.getLast? with
  | none=>exact⟨rfl,fun _=>⟨rfl,rfl⟩⟩
  | some t =>
   have hlt:=h.olt t (getLast_mem hl)
   refine⟨rfl,fun _=>⟨?_,rfl⟩⟩
   obtain⟨r,hr⟩:=List.getLast?_eq_some_iff.1 hl
   have hd:=hdrop t hl
   unfold absN
   simp only
   rw[hr]at hd ⊢
   simp only[List.map_append,List.map_cons,List.map_nil,List.dropLast_concat]at hd ⊢
   refine List.map_congr_left fun u hu=>?_
   have:=hset t ((spanN s t).1,(spanN s t).2.1,(i:Int)) u s.opn s.closed s.deep hlt
   rw[if_neg (hd u hu)]at this
   unfold spanN at this ⊢
   simp only at this ⊢
   rw[this]
 rw[if_neg h11,if_neg h11]
 exact⟨rfl,fun _=>⟨rfl,rfl⟩⟩
theorem goN_goA {cs:List Int}:∀(r:List Int) (i:Nat) (s:NS),NInv cs i s→r=cs.drop i→(goN cs r i s).2.1=goA r (absN cs s) s.closed
 | [],i,s,h,hr=>by
  unfold goN goA
  split<;>rfl
 | c::r,i,s,h,hr=>by
  have hc:cs[i]?=some c:=by
   have:=congrArg (·[0]?) hr
   simpa using this.symm
  obtain⟨h1,h2⟩:=stepA_of h hc
  unfold goN goA
  rw[←h1]
  by_cases he:(stepN cs c i s).1=0
  ·rw[if_neg (by omega),if_neg (by omega)]
   obtain⟨h3,h4⟩:=h2 he
   rw[goN_goA r (i+1) _ (h.step hc he) (by rw[←List.drop_drop,←hr];rfl),h3,h4]
  ·rw[if_pos he,if_pos he]
theorem goN_nop (l1:List Int) (y:Int) (l2:List Int):(goN (l1++1::y::l2) (l1++1::y::l2) 0 initN).2.1=(goN (l1++y::l2) (l1++y::l2) 0 initN).2.1:=by
 have h1:=goN_goA (l1++1::y::l2) 0 initN (NInv.init _) rfl
 have h2:=goN_goA (l1++y::l2) 0 initN (NInv.init _) rfl
 rw[h1,h2]
 exact goA_nop l1 y l2 _ _
def nopB (b:MBd) (k:Nat):MBd:=⟨b.loc,b.l.take k++nopX::b.l.drop k⟩
theorem errB_nop {b:MBd} {k:Nat} (hk:k<b.l.length):errB (nopB b k)=errB b∨(errB b=0∧errB (nopB b k)=15):=by
 have hd:b.l.drop k=b.l[k]::b.l.drop (k+1):=List.drop_eq_getElem_cons hk
 have hb:b.l=b.l.take k++b.l[k]::b.l.drop (k+1):=by rw[←hd,List.take_append_drop]
 have hr:rightB (nopB b k)=rightB b:=by
  unfold rightB nopB
  simp only
  have hx:rightX nopX=true:=by decide +kernel
  rw[List.all_append,List.all_cons,hx,Bool.true_and,←List.all_append,List.take_append_drop]
 have hn:nestE (nopB b k)=nestE b:=by
  unfold nestE codesB nopB
  simp only
  rw[hd]
  conv=>rhs;rw[hb]
  simp only[List.map_append,List.map_cons]
  exact goN_nop _ _ _
 have he:(encB b).length≤(encB (nopB b k)).length:=by
  unfold encB nopB
  simp only[List.length_append,List.flatMap_append,List.flatMap_cons]
  conv=>lhs;rw[hb]
  rw[hd]
  simp only[List.length_append,List.flatMap_append,List.flatMap_cons]
  omega
 unfold errB
 rw[hr,hn]
 (repeat' split)<;>first|(exact .inl rfl)|(exact .inr ⟨rfl,rfl⟩)|omega
theorem runC_congr {step step2:PS→XI→RR PS}:∀(l:List XI) (s:PS) (i:Nat) (hs:List Nat),(∀x∈l,∀s,step s x=step2 s x)→runC step l s i hs=runC step2 l s i hs
 | [],s,i,hs,_=>rfl
 | x::r,s,i,hs,h=>by
  unfold runC
  rw[h x (by simp)]
  split
  ·exact runC_congr r _ _ _ fun y hy=>h y (by simp[hy])
  ·rfl
theorem runC_25 {step:PS→XI→RR PS} (hz:∀s x n,step s x=.bad n→n=2∨n=5):∀(l:List XI) (s:PS) (i:Nat) (hs:List Nat),(runC step l s i hs).2.2=0∨(runC step l s i hs).2.2=2∨(runC step l s i hs).2.2=5
 | [],s,i,hs=>.inl rfl
 | x::r,s,i,hs=>by
  unfold runC
  split
  ·exact runC_25 hz r _ _ _
  ·rename_i n hn
   exact .inr (hz _ _ _ hn)
def stepR (v:PE) (s:PS) (x:XI):RR PS:=if (opRow x.code).isSome then stepX v s x else .bad 2
theorem stepR_25 (v:PE) (s:PS) (x:XI) (n:Nat) (h:stepR v s x=.bad n):n=2∨n=5:=by
 unfold stepR at h
 split at h
 ·rename_i hx
  exact n25_step_x h hx
 ·injection h with h;omega
theorem stepR_nop (v:PE) (s:PS):stepR v s nopX=.ok s:=by
 unfold stepR
 rw[if_pos (by rfl)]
 exact nop_step v s
theorem row_right {b:MBd} (h:errB b=0):∀x∈b.l,(opRow x.code).isSome=true:=fun x hx=>by
 have hr:rightB b=true:=by
  unfold errB at h
  split at h
  ·assumption
  ·cases h
 have h1:rightX x=true:=by
  unfold rightB at hr
  simp only[Bool.and_eq_true,List.all_eq_true]at hr
  exact hr.1 x hx
 obtain⟨r,h2,_⟩:=right_some h1
 rw[h2];rfl
theorem runB2_R {m:Mo} {f:Nat} (h:errB (m.funcs.getD f noFu).bd=0):runB2 m f=runC (stepR (peOf m f)) (m.funcs.getD f noFu).bd.l (ps0 (peOf m f).r) 0 [] :=
 runC_congr _ _ _ _ fun x hx s=>by unfold stepR;rw[if_pos (row_right h x hx)]
theorem runB2_25 {m:Mo} {f:Nat} (h:errB (m.funcs.getD f noFu).bd=0):(runB2 m f).2.2=0∨(runB2 m f).2.2=2∨(runB2 m f).2.2=5:=by
 rw[runB2_R h];exact runC_25 (stepR_25 _) _ _ _ _
def setBd (m:Mo) (f:Nat) (b:MBd):List MFu:=m.funcs.set f ⟨(m.funcs.getD f noFu).sig,b⟩
theorem setBd_same (m:Mo) (f:Nat) (b:MBd):SameF m (setBd m f b):=by
 refine⟨by simp[setBd],fun k=>?_⟩
 unfold setBd
 simp only[List.getD_eq_getElem?_getD,List.getElem?_set]
 by_cases e:f=k
 ·subst e
  by_cases hl:f<m.funcs.length
  ·simp[hl]
  ·simp[hl]
 ·simp[e]
theorem setBd_at {m:Mo} {f:Nat} (hf:f<m.funcs.length) (b:MBd):(setBd m f b).getD f noFu=⟨(m.funcs.getD f noFu).sig,b⟩:=by
 unfold setBd
 simp[List.getD_eq_getElem?_getD,hf]
theorem runP_nop (m:Mo) (f k:Nat) (hf:f<m.funcs.length) (hk:k<(m.funcs.getD f noFu).bd.l.length) :
  ((runP (withF m (setBd m f (nopB (m.funcs.getD f noFu).bd k))) (f:Int)).2.2=15∧(runP m (f:Int)).2.2≠15) ∨
  ((runP (withF m (setBd m f (nopB (m.funcs.getD f noFu).bd k))) (f:Int)).2.2=(runP m (f:Int)).2.2∧peakN (runP (withF m (setBd m f (nopB (m.funcs.getD f noFu).bd k))) (f:Int)).1=peakN (runP m (f:Int)).1 ∧
   ((runP m (f:Int)).2.2=0∨errB (m.funcs.getD f noFu).bd≠0∨(runP m (f:Int)).2.2=12→(runP m (f:Int)).2.1=0∧(runP (withF m (setBd m f (nopB (m.funcs.getD f noFu).bd k))) (f:Int)).2.1=0) ∧
   (¬((runP m (f:Int)).2.2=0∨errB (m.funcs.getD f noFu).bd≠0∨(runP m (f:Int)).2.2=12)→((runP m (f:Int)).2.1<k→(runP (withF m (setBd m f (nopB (m.funcs.getD f noFu).bd k))) (f:Int)).2.1=(runP m (f:Int)).2.1)∧(k≤(runP m (f:Int)).2.1→(runP (withF m (setBd m f (nopB (m.funcs.getD f noFu).bd k))) (f:Int)).2.1=(runP m (f:Int)).2.1+1))):=by
 have hS:=setBd_same m f (nopB (m.funcs.getD f noFu).bd k)
 have hA:=setBd_at hf (nopB (m.funcs.getD f noFu).bd k)
 have hL:=hS.len
 generalize hF:setBd m f (nopB (m.funcs.getD f noFu).bd k)=F at *
 have hin:inB (f:Int) m.funcs.length=true:=inB_iff.2 ⟨by omega,by omega⟩
 unfold runP
 rw[unfit_w hS,show (withF m F).funcs.length=m.funcs.length from hL,show (withF m F).funcs.getD (f:Int).toNat noFu=_ from hA,Int.toNat_natCast]
 by_cases hu:(unfitP m).2≠0
 ·rw[if_pos hu,if_pos hu]
  exact .inr ⟨rfl,rfl,fun _=>⟨rfl,rfl⟩,fun h=>absurd (.inr (.inr rfl)) h⟩
 rw[if_neg hu,if_neg hu,if_pos hin,if_pos hin]
 simp only
 rcases errB_nop hk with he|⟨h0,h15⟩
 ·rw[he]
  by_cases hb:errB (m.funcs.getD f noFu).bd≠0
  ·rw[if_pos hb,if_pos hb]
   exact .inr ⟨rfl,rfl,fun _=>⟨rfl,rfl⟩,fun h=>absurd (.inr (.inl hb)) h⟩
  ·rw[if_neg hb,if_neg hb]
   have hb0:errB (m.funcs.getD f noFu).bd=0:=by omega
   have e1:=runB2_R hb0
   have hA2:(withF m F).funcs.getD f noFu=⟨(m.funcs.getD f noFu).sig,nopB (m.funcs.getD f noFu).bd k⟩:=hA
   have e2:runB2 (withF m F) f=runC (stepR (peOf m f)) (nopB (m.funcs.getD f noFu).bd k).l (ps0 (peOf m f).r) 0 []:=by
    rw[runB2_R (by rw[hA2];show errB (nopB _ _)=0;rw[he];exact hb0)]
    have hp:peOf (withF m F) f=⟨withF m F,(peOf m f).loc,(peOf m f).p,(peOf m f).r⟩:=by
     unfold peOf
     rw[hA2,show (withF m F).imps=m.imps from rfl,sigOf_w hS]
     rfl
    have hst:stepR (peOf (withF m F) f)=stepR (peOf m f):=by
     funext s x
     unfold stepR
     rw[hp,step_w hS]
     rfl
    rw[hst,hA2,hp]
   have hd:(m.funcs.getD f noFu).bd.l.drop k=(m.funcs.getD f noFu).bd.l[k]::(m.funcs.getD f noFu).bd.l.drop (k+1):=List.drop_eq_getElem_cons hk
   have hz:∀s x n,stepR (peOf m f) s x=.bad n→n≠0:=fun s x n h=>by have:=stepR_25 _ _ _ _ h;omega
   have hN:=runC_nop hz (stepR_nop (peOf m f)) ((m.funcs.getD f noFu).bd.l.take k) (m.funcs.getD f noFu).bd.l[k] ((m.funcs.getD f noFu).bd.l.drop (k+1)) (ps0 (peOf m f).r) 0 []
   rw[←hd,List.take_append_drop,List.length_take,Nat.min_eq_left (by omega),Nat.zero_add,←e1,show (List.take k (m.funcs.getD f noFu).bd.l++nopX::List.drop k (m.funcs.getD f noFu).bd.l)=(nopB (m.funcs.getD f noFu).bd k).l from rfl,←e2]at hN
   have h25:=runB2_25 hb0
   refine .inr ⟨hN.err,hN.peak,fun h=>?_,fun h=>?_⟩
   ·rcases h with h|h|h
    ·exact hN.ok h
    ·exact absurd h hb
    ·omega
   ·have h9:¬(runB2 m f).2.2=0:=fun h2=>h (.inl h2)
    exact⟨hN.lo h9,hN.hi h9⟩
 ·rw[h15,h0,if_pos (by omega),if_neg (by omega)]
  have h25:=runB2_25 h0
  exact .inl ⟨rfl,by omega⟩
end Go.Proofs.YtpcanheghenhdaaGreat
