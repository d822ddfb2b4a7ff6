import Derived.Test.YtomppgohoplemaaGreatNAI
import Derived.Test.YtomppgohoplemaaGreatNAD
set_option linter.unusedVariables false
namespace Go.Proofs.YtomppgohoplemaaGreat
open Go.RowKit
inductive RR (α:Type) where
 | ok (a:α)
 | bad (n:Nat)
def RR.then {α β:Type} (r:RR α) (f:α→RR β):RR β:=match r with
 | .ok a=>f a
 | .bad n=>.bad n
structure PB where
 lp:Bool
 is_:Bool
 res:List UInt8
 h:Nat
 dead:Bool
structure PS where
 st:List UInt8
 bl:List PB
def noPB:PB:=⟨false,false,[],0,false⟩
def PS.top (s:PS):PB:=s.bl.getD (s.bl.length-1) noPB
def need {α:Type} (is_:Bool) (e:Nat) (r:RR α):RR α:=if is_ then r else .bad e
def popP (s:PS) (want:UInt8):RR (PS×UInt8) :=
 if s.st.length=s.top.h then need s.top.dead 5 (.ok (s,want))
 else
  let got:=s.st.getD (s.st.length-1) 0
  need (got==want||(got==0||want==0)) 5 (.ok (⟨s.st.take (s.st.length-1),s.bl⟩,if got=0 then want else got))
def popsR (s:PS):List UInt8→RR PS
 | []=>.ok s
 | t::r=>(popP s t).then fun q=>popsR q.1 r
def popsP (s:PS) (l:List UInt8):RR PS:=popsR s l.reverse
def pushP (s:PS) (l:List UInt8):PS:=⟨s.st++l,s.bl⟩
def setTop (s:PS) (b:PB):List PB:=s.bl.set (s.bl.length-1) b
def killP (s:PS):PS:=⟨s.st.take s.top.h,setTop s { s.top with dead:=true }⟩
def openP (s:PS) (c:Int) (a:Nat):PS:=⟨s.st,s.bl++[⟨c==3,c==4,if a=64 then []else [UInt8.ofNat a],s.st.length,false⟩]⟩
def closeP (s:PS):RR (PS×PB) :=
 (popsP s s.top.res).then fun q=>need (q.st.length==s.top.h) 5 (.ok (⟨q.st,q.bl.take (q.bl.length-1)⟩,s.top))
def otherP (s:PS):RR PS:=(closeP s).then fun q=>.ok ⟨q.1.st,q.1.bl++[{ q.2 with is_:=false,dead:=false }]⟩
def endP (s:PS):RR PS:=(closeP s).then fun q=>need (!q.2.is_||q.2.res.length==0) 5 (.ok (pushP q.1 q.2.res))
def labelP (s:PS) (n:Nat):RR (List UInt8) :=
 need (decide (n<s.bl.length)) 2 (let b:=s.bl.getD (s.bl.length-1-n) noPB;.ok (if b.lp then []else b.res))
def labelsIn (s:PS):List Nat→RR Unit
 | []=>.ok ()
 | n::r=>(labelP s n).then fun _=>labelsIn s r
def labelsEq (s:PS) (want:List UInt8):List Nat→RR Unit
 | []=>.ok ()
 | n::r=>(labelP s n).then fun l=>need (l==want) 5 (labelsEq s want r)
def pop1 (s:PS) (t:UInt8):RR PS:=(popP s t).then fun q=>.ok q.1
def branchP (s:PS) (x:XI):RR PS :=
 (labelP s x.a).then fun want=>(labelsIn s x.l).then fun _=>(labelsEq s want x.l).then fun _=>(pop1 s 127).then fun s1=>(popsP s1 want).then fun s2=>.ok (killP s2)
structure PE where
 m:Mo
 loc:List UInt8
 p:List UInt8
 r:List UInt8
def ctrlC (c:Int):Bool:=c==0||(c==2||(c==3||(c==4||(c==5||(c==11||(c==12||(c==13||(c==14||c==15))))))))
def controlP (v:PE) (s:PS) (x:XI):RR PS :=
 if x.code=0 then .ok (killP s)
 else if x.code=4 then (pop1 s 127).then fun s1=>.ok (openP s1 x.code x.a)
 else if x.code=2∨x.code=3 then .ok (openP s x.code x.a)
 else if x.code=5 then otherP s
 else if x.code=11 then endP s
 else if x.code=12 then (labelP s x.a).then fun l=>(popsP s l).then fun s1=>.ok (killP s1)
 else if x.code=13 then (labelP s x.a).then fun l=>(pop1 s 127).then fun s1=>(popsP s1 l).then fun s2=>.ok (pushP s2 l)
 else if x.code=14 then branchP s x
 else (popsP s v.r).then fun s1=>.ok (killP s1)
def localP (v:PE) (n:Nat):RR UInt8:=need (decide (n<v.loc.length)) 2 (.ok (v.loc.getD n 0))
def globalP (v:PE) (n:Nat):RR MGl:=need (decide (n<v.m.gls.length)) 2 (.ok (v.m.gls.getD n noGl))
def varC (c:Int):Bool:=c==32||(c==33||(c==34||(c==35||c==36)))
def variableP (v:PE) (s:PS) (x:XI):RR PS :=
 if x.code=32 then (localP v x.a).then fun t=>.ok (pushP s [t])
 else if x.code=33 then (localP v x.a).then fun t=>pop1 s t
 else if x.code=34 then (localP v x.a).then fun t=>(pop1 s t).then fun s1=>.ok (pushP s1 [t])
 else if x.code=35 then (globalP v x.a).then fun g=>.ok (pushP s [g.t])
 else (globalP v x.a).then fun g=>need g.mu 5 (pop1 s g.t)
def applyP (s:PS) (p r:List UInt8):RR PS:=(popsP s p).then fun s1=>.ok (pushP s1 r)
def callC (c:Int):Bool:=c==16||(c==17||(c==26||c==27))
def hasSig (m:Mo) (f:Nat):Bool:=decide (f<m.all)&&inB (sigN m f) m.sigs.length
def callP (v:PE) (s:PS) (x:XI):RR PS :=
 if x.code=16 then need (hasSig v.m x.a) 2 (applyP s (sigOf v.m x.a).p (sigOf v.m x.a).r)
 else if x.code=17 then need (decide (x.a<v.m.sigs.length)&&(x.b==0&&decide (0≤v.m.table))) 2 ((pop1 s 127).then fun s1=>applyP s1 (v.m.sigs.getD x.a noSg).p (v.m.sigs.getD x.a noSg).r)
 else if x.code=26 then pop1 s 0
 else (pop1 s 127).then fun s1=>(popP s1 0).then fun q=>(popP q.1 q.2).then fun q2=>.ok (pushP q2.1 [q2.2])
def memP (v:PE) (n:Nat):RR MLm:=need (decide (n<v.m.mems.length)) 2 (.ok (v.m.mems.getD n noLm))
def adrT (l:MLm):UInt8:=if l.wide then 126 else 127
def accessP (v:PE) (s:PS) (x:XI) (w:Nat) (tk gv:List UInt8):RR PS :=
 (memP v x.a).then fun l=>need (l.wide||decide (x.b≤4294967295)) 2 (need (decide (x.al<8)&&decide (2^x.al.toNat≤w)) 5 (applyP s (tk.set 0 (adrT l)) gv))
def bulkP (v:PE) (s:PS) (x:XI):RR PS :=
 (memP v x.a).then fun l =>
  if x.code=63 then .ok (pushP s [adrT l])
  else if x.code=64 then (pop1 s (adrT l)).then fun s1=>.ok (pushP s1 [adrT l])
  else if x.code=64523 then popsP s [adrT l,127,adrT l]
  else (memP v x.b).then fun k=>popsP s [adrT l,adrT k,if adrT l=126∧adrT k=126 then 126 else 127]
def stepP (v:PE) (s:PS) (x:XI) (f:Int) (w:Nat) (tk gv:List UInt8):RR PS :=
 if ctrlC x.code then controlP v s x
 else if varC x.code then variableP v s x
 else if callC x.code then callP v s x
 else if f=8 then accessP v s x w tk gv
 else if f=9∨f=10 then bulkP v s x
 else applyP s tk gv
def runC (step:PS→XI→RR PS):List XI→PS→Nat→List Nat→List Nat×Nat×Nat
 | [],_,_,hs=>(hs,0,0)
 | x::r,s,i,hs=>match step s x with
  | .ok s1=>runC step r s1 (i+1) (hs++[s.st.length])
  | .bad n=>([],i,n)
structure InvP (s:PS):Prop where
 ne:s.bl≠[]
 top:s.top.h≤s.st.length
 mono:s.bl.Pairwise (fun a b=>a.h≤b.h)
 res:∀b∈s.bl,b.res.length≤1000
theorem top_last {s:PS} (h:s.bl≠[]):s.bl[s.bl.length-1]?=some s.top:=by
 have:s.bl.length-1<s.bl.length:=by have:=List.length_pos_iff.2 h;omega
 exact getD_lt this
theorem need_ok {α:Type} {b:Bool} {e:Nat} {r:RR α} {a:α} (h:need b e r=.ok a):b=true∧r=.ok a:=by
 cases b with
 | true=>exact⟨rfl,h⟩
 | false=>simp[need]at h
theorem popP_ok {s:PS} {t:UInt8} {q:PS×UInt8} (h:popP s t=.ok q) (hi:InvP s):InvP q.1∧q.1.bl=s.bl∧q.1.st.length≤s.st.length:=by
 unfold popP at h
 split at h
 ·obtain⟨_,h⟩:=need_ok h
  injection h with h
  subst h
  exact⟨hi,rfl,Nat.le_refl _⟩
 ·rename_i hne
  obtain⟨_,h⟩:=need_ok h
  injection h with h
  subst h
  refine⟨⟨hi.ne,?_,hi.mono,hi.res⟩,rfl,by simp⟩
  have:=hi.top
  show s.top.h≤(s.st.take (s.st.length-1)).length
  rw[List.length_take]
  omega
theorem then_ok {α β:Type} {r:RR α} {f:α→RR β} {b:β} (h:r.then f=.ok b):∃a,r=.ok a∧f a=.ok b:=by
 cases r with
 | ok a=>exact⟨a,rfl,h⟩
 | bad n=>simp[RR.then]at h
theorem popsR_ok:∀{l:List UInt8} {s s2:PS},popsR s l=.ok s2→InvP s→InvP s2∧s2.bl=s.bl∧s2.st.length≤s.st.length
 | [],s,s2,h,hi=>by
  simp[popsR]at h
  subst h
  exact⟨hi,rfl,Nat.le_refl _⟩
 | t::r,s,s2,h,hi=>by
  obtain⟨q,h1,h2⟩:=then_ok h
  obtain⟨a,b,c⟩:=popP_ok h1 hi
  obtain⟨a2,b2,c2⟩:=popsR_ok h2 a
  exact⟨a2,b2.trans b,Nat.le_trans c2 c⟩
theorem popsP_ok {l:List UInt8} {s s2:PS} (h:popsP s l=.ok s2) (hi:InvP s):InvP s2∧s2.bl=s.bl∧s2.st.length≤s.st.length:=popsR_ok h hi
theorem pop1_ok {s s2:PS} {t:UInt8} (h:pop1 s t=.ok s2) (hi:InvP s):InvP s2∧s2.bl=s.bl∧s2.st.length≤s.st.length:=by
 obtain⟨q,h1,h2⟩:=then_ok h
 injection h2 with h2
 subst h2
 exact popP_ok h1 hi
theorem closeP_ok {s:PS} {q:PS×PB} (h:closeP s=.ok q) (hi:InvP s):q.2=s.top∧q.1.bl=s.bl.take (s.bl.length-1)∧q.1.st.length=s.top.h∧q.1.st.length≤s.st.length:=by
 obtain⟨s1,h1,h2⟩:=then_ok h
 obtain⟨hn,h3⟩:=need_ok h2
 injection h3 with h3
 subst h3
 obtain⟨_,hb,hl⟩:=popsP_ok h1 hi
 exact⟨rfl,by show s1.bl.take _=_;rw[hb],by simpa using hn,hl⟩
theorem pushP_inv {s:PS} (h:InvP s) (l:List UInt8):InvP (pushP s l):=by
 refine⟨h.ne,?_,h.mono,h.res⟩
 have:=h.top
 show s.top.h≤(s.st++l).length
 rw[List.length_append]
 omega
theorem applyP_ok {s s2:PS} {p r:List UInt8} (h:applyP s p r=.ok s2) (hi:InvP s):InvP s2∧s2.bl=s.bl∧s2.st.length≤s.st.length+r.length:=by
 obtain⟨s1,h1,h2⟩:=then_ok h
 injection h2 with h2
 subst h2
 obtain⟨a,b,c⟩:=popsP_ok h1 hi
 refine⟨pushP_inv a r,b,?_⟩
 show (s1.st++r).length≤_
 rw[List.length_append]
 omega
theorem variableP_ok {v:PE} {s s2:PS} {x:XI} (h:variableP v s x=.ok s2) (hi:InvP s):InvP s2∧s2.bl=s.bl∧s2.st.length≤s.st.length+1:=by
 unfold variableP at h
 split at h
 ·obtain⟨t,_,h⟩:=then_ok h
  injection h with h
  subst h
  exact⟨pushP_inv hi _,rfl,by simp[pushP]⟩
 ·split at h
  ·obtain⟨t,_,h⟩:=then_ok h
   obtain⟨a,b,c⟩:=pop1_ok h hi
   exact⟨a,b,by omega⟩
  ·split at h
   ·obtain⟨t,_,h⟩:=then_ok h
    obtain⟨s1,h1,h⟩:=then_ok h
    injection h with h
    subst h
    obtain⟨a,b,c⟩:=pop1_ok h1 hi
    exact⟨pushP_inv a _,b,by show (s1.st++[t]).length≤_;rw[List.length_append];simp;omega⟩
   ·split at h
    ·obtain⟨t,_,h⟩:=then_ok h
     injection h with h
     subst h
     exact⟨pushP_inv hi _,rfl,by simp[pushP]⟩
    ·obtain⟨t,_,h⟩:=then_ok h
     obtain⟨_,h⟩:=need_ok h
     obtain⟨a,b,c⟩:=pop1_ok h hi
     exact⟨a,b,by omega⟩
theorem callP_ok {v:PE} {s s2:PS} {x:XI} (h:callP v s x=.ok s2) (hi:InvP s) (hr:∀i,(v.m.sigs.getD i noSg).r.length≤1000):InvP s2∧s2.bl=s.bl∧s2.st.length≤s.st.length+1000:=by
 unfold callP at h
 split at h
 ·obtain⟨_,h⟩:=need_ok h
  obtain⟨a,b,c⟩:=applyP_ok h hi
  have:=hr (sigN v.m x.a).toNat
  exact⟨a,b,by unfold sigOf at c;omega⟩
 ·split at h
  ·obtain⟨_,h⟩:=need_ok h
   obtain⟨s1,h1,h⟩:=then_ok h
   obtain⟨a1,b1,c1⟩:=pop1_ok h1 hi
   obtain⟨a,b,c⟩:=applyP_ok h a1
   have:=hr x.a
   exact⟨a,b.trans b1,by omega⟩
  ·split at h
   ·obtain⟨a,b,c⟩:=pop1_ok h hi
    exact⟨a,b,by omega⟩
   ·obtain⟨s1,h1,h⟩:=then_ok h
    obtain⟨q,h2,h⟩:=then_ok h
    obtain⟨q2,h3,h⟩:=then_ok h
    injection h with h
    subst h
    obtain⟨a1,b1,c1⟩:=pop1_ok h1 hi
    obtain⟨a2,b2,c2⟩:=popP_ok h2 a1
    obtain⟨a3,b3,c3⟩:=popP_ok h3 a2
    refine⟨pushP_inv a3 _,b3.trans (b2.trans b1),?_⟩
    show (q2.1.st++[q2.2]).length≤_
    rw[List.length_append]
    simp
    omega
theorem accessP_ok {v:PE} {s s2:PS} {x:XI} {w:Nat} {tk gv:List UInt8} (h:accessP v s x w tk gv=.ok s2) (hi:InvP s):InvP s2∧s2.bl=s.bl∧s2.st.length≤s.st.length+gv.length:=by
 obtain⟨l,_,h⟩:=then_ok h
 obtain⟨_,h⟩:=need_ok h
 obtain⟨_,h⟩:=need_ok h
 exact applyP_ok h hi
theorem bulkP_ok {v:PE} {s s2:PS} {x:XI} (h:bulkP v s x=.ok s2) (hi:InvP s):InvP s2∧s2.bl=s.bl∧s2.st.length≤s.st.length+1:=by
 obtain⟨l,_,h⟩:=then_ok h
 split at h
 ·injection h with h
  subst h
  exact⟨pushP_inv hi _,rfl,by simp[pushP]⟩
 ·split at h
  ·obtain⟨s1,h1,h⟩:=then_ok h
   injection h with h
   subst h
   obtain⟨a,b,c⟩:=pop1_ok h1 hi
   exact⟨pushP_inv a _,b,by show (s1.st++[adrT l]).length≤_;rw[List.length_append];simp;omega⟩
  ·split at h
   ·obtain⟨a,b,c⟩:=popsP_ok h hi
    exact⟨a,b,by omega⟩
   ·obtain⟨k,_,h⟩:=then_ok h
    obtain⟨a,b,c⟩:=popsP_ok h hi
    exact⟨a,b,by omega⟩
theorem set_same_h {l:List PB} {i:Nat} {b c:PB} (hb:l[i]?=some b) (hc:c.h=b.h):(l.set i c).map PB.h=l.map PB.h:=by
 apply List.ext_getElem?
 intro k
 rw[List.map_set,List.getElem?_set]
 split
 ·rename_i hk
  subst hk
  split
  ·rw[List.getElem?_map,hb];simp[hc]
  ·rename_i hn
   rw[List.getElem?_eq_none (by omega)]
 ·rfl
theorem killP_inv {s:PS} (h:InvP s):InvP (killP s)∧(killP s).bl.length=s.bl.length∧(killP s).st.length≤s.st.length:=by
 have ht:=top_last h.ne
 have hlen:(killP s).bl.length=s.bl.length:=by simp[killP,setTop]
 have htop:(killP s).top={ s.top with dead:=true }:=by
  show (s.bl.set (s.bl.length-1) { s.top with dead:=true }).getD ((s.bl.set (s.bl.length-1) { s.top with dead:=true }).length-1) noPB=_
  rw[List.length_set]
  have hlt:s.bl.length-1<s.bl.length:=by have:=List.length_pos_iff.2 h.ne;omega
  rw[List.getD_eq_getElem?_getD,List.getElem?_set_self hlt]
  rfl
 have hle:=h.top
 refine⟨⟨?_,?_,?_,?_⟩,hlen,by show (s.st.take s.top.h).length≤_;rw[List.length_take];omega⟩
 ·intro e
  have:=List.length_pos_iff.2 h.ne
  rw[e]at hlen
  simp at hlen
  omega
 ·rw[htop]
  show s.top.h≤(s.st.take s.top.h).length
  rw[List.length_take]
  omega
 ·have hm:=h.mono
  rw[←List.pairwise_map (f:=PB.h) (R:=(·≤·))]at hm ⊢
  show (List.map PB.h (s.bl.set (s.bl.length-1) { s.top with dead:=true })).Pairwise _
  rw[set_same_h (c:={ s.top with dead:=true }) ht rfl]
  exact hm
 ·intro b hb
  rcases List.mem_or_eq_of_mem_set hb with hb|hb
  ·exact h.res b hb
  ·subst hb
   exact h.res s.top (List.mem_of_getElem? ht)
theorem openP_inv {s:PS} (h:InvP s) (c:Int) (a:Nat):InvP (openP s c a)∧(openP s c a).bl.length=s.bl.length+1∧(openP s c a).st.length=s.st.length:=by
 have htop:(openP s c a).top=⟨c==3,c==4,if a=64 then []else [UInt8.ofNat a],s.st.length,false⟩:=by
  show (s.bl++[_]).getD ((s.bl++[_]).length-1) noPB=_
  simp
 refine⟨⟨by simp[openP],?_,?_,?_⟩,by simp[openP],rfl⟩
 ·rw[htop]
  exact Nat.le_refl _
 ·show (s.bl++[_]).Pairwise _
  rw[List.pairwise_append]
  refine⟨h.mono,by simp,fun b hb d hd=>?_⟩
  simp at hd
  subst hd
  show b.h≤s.st.length
  have ht:=top_last h.ne
  obtain⟨i,hi,hbi⟩:=List.getElem_of_mem hb
  have hle:b.h≤s.top.h:=by
   by_cases hl:i=s.bl.length-1
   ·subst hl
    rw[List.getElem?_eq_getElem hi,hbi]at ht
    injection ht with ht
    rw[ht]
    exact Nat.le_refl _
   ·have hlt:s.bl.length-1<s.bl.length:=by omega
    have:=List.pairwise_iff_getElem.1 h.mono i (s.bl.length-1) hi hlt (by omega)
    rw[List.getElem?_eq_getElem hlt]at ht
    injection ht with ht
    rw[hbi,ht]at this
    exact this
  have:=h.top
  omega
 ·intro b hb
  have hb2:b∈s.bl++[(⟨c==3,c==4,if a=64 then []else [UInt8.ofNat a],s.st.length,false⟩:PB)]:=hb
  rcases List.mem_append.1 hb2 with hb2|hb2
  ·exact h.res b hb2
  ·simp at hb2
   subst hb2
   show (if a=64 then []else [UInt8.ofNat a]:List UInt8).length≤1000
   split<;>simp
theorem closed_inv {s:PS} {st:List UInt8} (h:InvP s) (hs:st.length=s.top.h) (hl:2≤s.bl.length):InvP ⟨st,s.bl.take (s.bl.length-1)⟩:=by
 have ht:=top_last h.ne
 have hlt:s.bl.length-1<s.bl.length:=by omega
 have hlt2:s.bl.length-2<s.bl.length:=by omega
 have htop:(⟨st,s.bl.take (s.bl.length-1)⟩:PS).top=s.bl[s.bl.length-2]:=by
  show (s.bl.take (s.bl.length-1)).getD ((s.bl.take (s.bl.length-1)).length-1) noPB=_
  rw[List.length_take,Nat.min_eq_left (by omega),List.getD_eq_getElem?_getD,List.getElem?_take_of_lt (by omega)]
  rw[show s.bl.length-1-1=s.bl.length-2 from by omega,List.getElem?_eq_getElem hlt2]
  rfl
 refine⟨fun e=>?_,?_,h.mono.sublist (List.take_sublist _ _),fun b hb=>h.res b (List.mem_of_mem_take hb)⟩
 ·have h0:(s.bl.take (s.bl.length-1)).length=0:=by rw[show s.bl.take (s.bl.length-1)=[]from e];rfl
  rw[List.length_take]at h0
  omega
 ·rw[htop]
  show _≤st.length
  rw[hs]
  have:=List.pairwise_iff_getElem.1 h.mono (s.bl.length-2) (s.bl.length-1) hlt2 hlt (by omega)
  rw[List.getElem?_eq_getElem hlt]at ht
  injection ht with ht
  rw[ht]at this
  exact this
theorem bl_split {s:PS} (h:s.bl≠[]):s.bl=s.bl.take (s.bl.length-1)++[s.top]:=by
 have hl:=List.length_pos_iff.2 h
 have ht:=top_last h
 have hlt:s.bl.length-1<s.bl.length:=by omega
 conv=>lhs;rw[←List.take_append_drop (s.bl.length-1) s.bl]
 congr 1
 rw[List.drop_eq_getElem_cons hlt]
 rw[List.getElem?_eq_getElem hlt]at ht
 injection ht with ht
 rw[ht,List.drop_eq_nil_of_le (by omega)]
theorem otherP_inv {s s2:PS} (h:otherP s=.ok s2) (hi:InvP s):InvP s2∧s2.bl.length=s.bl.length∧s2.st.length≤s.st.length:=by
 obtain⟨q,h1,h2⟩:=then_ok h
 injection h2 with h2
 obtain⟨e1,e2,e3,e4⟩:=closeP_ok h1 hi
 rw[e1,e2]at h2
 subst h2
 have hl:=List.length_pos_iff.2 hi.ne
 have hm:(s.bl.take (s.bl.length-1)++[{ s.top with is_:=false,dead:=false }]).map PB.h=s.bl.map PB.h:=by
  conv=>rhs;rw[bl_split hi.ne]
  simp
 have htop:(⟨q.1.st,s.bl.take (s.bl.length-1)++[{ s.top with is_:=false,dead:=false }]⟩:PS).top={ s.top with is_:=false,dead:=false }:=by
  show (s.bl.take (s.bl.length-1)++[_]).getD ((s.bl.take (s.bl.length-1)++[_]).length-1) noPB=_
  simp
 refine⟨⟨by simp,?_,?_,fun b hb=>?_⟩,by simp;omega,e4⟩
 ·rw[htop]
  show s.top.h≤q.1.st.length
  omega
 ·have:=hi.mono
  rw[←List.pairwise_map (f:=PB.h) (R:=(·≤·))]at this ⊢
  rw[hm]
  exact this
 ·rcases List.mem_append.1 hb with hb|hb
  ·exact hi.res b (List.mem_of_mem_take hb)
  ·simp at hb
   subst hb
   exact hi.res s.top (List.mem_of_getElem? (top_last hi.ne))
theorem endP_inv {s s2:PS} (h:endP s=.ok s2) (hi:InvP s):s2.st.length≤s.st.length+1000∧(s.bl.length=1→s2.bl=[])∧(2≤s.bl.length→InvP s2∧s2.bl.length=s.bl.length-1):=by
 obtain⟨q,h1,h2⟩:=then_ok h
 obtain⟨_,h2⟩:=need_ok h2
 injection h2 with h2
 obtain⟨e1,e2,e3,e4⟩:=closeP_ok h1 hi
 have hres:=hi.res s.top (List.mem_of_getElem? (top_last hi.ne))
 subst h2
 rw[e1]
 refine⟨by show (q.1.st++s.top.res).length≤_;rw[List.length_append];omega,fun h1=>?_,fun h2=>?_⟩
 ·show q.1.bl=[]
  rw[e2,h1]
  rfl
 ·have hc:=closed_inv hi e3 h2
  rw[show (⟨q.1.st,s.bl.take (s.bl.length-1)⟩:PS)=q.1 from by rw[←e2]]at hc
  refine⟨pushP_inv hc _,?_⟩
  show q.1.bl.length=_
  rw[e2]
  simp
theorem labelP_len {s:PS} {n:Nat} {l:List UInt8} (h:labelP s n=.ok l) (hi:InvP s):l.length≤1000:=by
 unfold labelP at h
 obtain⟨hn,h⟩:=need_ok h
 injection h with h
 subst h
 split
 ·simp
 ·have hlt:s.bl.length-1-n<s.bl.length:=by have:=List.length_pos_iff.2 hi.ne;omega
  exact hi.res _ (List.mem_of_getElem? (getD_lt hlt))
structure KeepP (s s2:PS) (c:Int):Prop where
 st:s2.st.length≤s.st.length+1000
 opn:opensC c→InvP s2∧s2.bl.length=s.bl.length+1
 last:c=11→s.bl.length=1→s2.bl=[]
 cls:c=11→2≤s.bl.length→InvP s2∧s2.bl.length=s.bl.length-1
 els:¬opensC c→c≠11→InvP s2∧s2.bl.length=s.bl.length
theorem KeepP.same {s s2:PS} {c:Int} (h1:s2.st.length≤s.st.length+1000) (h2:InvP s2) (h3:s2.bl.length=s.bl.length) (hc:c=2∨c=3∨c=4∨c=11→False):KeepP s s2 c :=
 ⟨h1,fun ho=>(hc (by unfold opensC at ho;omega)).elim,fun h=>(hc (by omega)).elim,fun h=>(hc (by omega)).elim,fun _ _=>⟨h2,h3⟩⟩
theorem KeepP.open_ {s s2:PS} {c:Int} (h1:s2.st.length≤s.st.length+1000) (h2:InvP s2) (h3:s2.bl.length=s.bl.length+1) (hc:opensC c):KeepP s s2 c :=
 ⟨h1,fun _=>⟨h2,h3⟩,fun h=>by unfold opensC at hc;omega,fun h=>by unfold opensC at hc;omega,fun h=>absurd hc h⟩
theorem branchP_inv {s s2:PS} {x:XI} (h:branchP s x=.ok s2) (hi:InvP s):InvP s2∧s2.bl.length=s.bl.length∧s2.st.length≤s.st.length:=by
 unfold branchP at h
 obtain⟨_,_,h⟩:=then_ok h
 obtain⟨_,_,h⟩:=then_ok h
 obtain⟨_,_,h⟩:=then_ok h
 obtain⟨s1,h1,h⟩:=then_ok h
 obtain⟨s3,h2,h⟩:=then_ok h
 injection h with h
 subst h
 obtain⟨a1,b1,c1⟩:=pop1_ok h1 hi
 obtain⟨a2,b2,c2⟩:=popsP_ok h2 a1
 obtain⟨a3,b3,c3⟩:=killP_inv a2
 exact⟨a3,by rw[b3,b2,b1],by omega⟩
theorem controlP_keep {v:PE} {s s2:PS} {x:XI} (hc:ctrlC x.code=true) (h:controlP v s x=.ok s2) (hi:InvP s):KeepP s s2 x.code:=by
 unfold controlP at h
 split at h
 ·rename_i e0
  injection h with h
  subst h
  obtain⟨a,b,c⟩:=killP_inv hi
  exact KeepP.same (by omega) a b (by omega)
 split at h
 ·rename_i e0
  obtain⟨s1,h1,h⟩:=then_ok h
  injection h with h
  subst h
  obtain⟨a1,b1,c1⟩:=pop1_ok h1 hi
  obtain⟨a,b,c⟩:=openP_inv a1 x.code x.a
  exact KeepP.open_ (by omega) a (by rw[b,b1]) (by unfold opensC;omega)
 split at h
 ·rename_i e0
  injection h with h
  subst h
  obtain⟨a,b,c⟩:=openP_inv hi x.code x.a
  exact KeepP.open_ (by omega) a b (by unfold opensC;omega)
 split at h
 ·rename_i e0
  obtain⟨a,b,c⟩:=otherP_inv h hi
  exact KeepP.same (by omega) a b (by omega)
 split at h
 ·rename_i e0
  obtain⟨a,b,c⟩:=endP_inv h hi
  exact⟨a,fun ho=>by unfold opensC at ho;omega,fun _=>b,fun _=>c,fun _ h=>absurd e0 h⟩
 split at h
 ·obtain⟨l,hl,h⟩:=then_ok h
  obtain⟨s1,h1,h⟩:=then_ok h
  injection h with h
  subst h
  obtain⟨a1,b1,c1⟩:=popsP_ok h1 hi
  obtain⟨a,b,c⟩:=killP_inv a1
  exact KeepP.same (by omega) a (by rw[b,b1]) (by omega)
 split at h
 ·obtain⟨l,hl,h⟩:=then_ok h
  obtain⟨s1,h1,h⟩:=then_ok h
  obtain⟨s3,h3,h⟩:=then_ok h
  injection h with h
  subst h
  obtain⟨a1,b1,c1⟩:=pop1_ok h1 hi
  obtain⟨a2,b2,c2⟩:=popsP_ok h3 a1
  have:=labelP_len hl hi
  exact KeepP.same (by show (s3.st++l).length≤_;rw[List.length_append];omega) (pushP_inv a2 l) (by show s3.bl.length=_;rw[b2,b1]) (by omega)
 split at h
 ·obtain⟨a,b,c⟩:=branchP_inv h hi
  exact KeepP.same (by omega) a b (by omega)
 ·rename_i _ _ e2 _ e11 _ _ _
  obtain⟨s1,h1,h⟩:=then_ok h
  injection h with h
  subst h
  obtain⟨a1,b1,c1⟩:=popsP_ok h1 hi
  obtain⟨a,b,c⟩:=killP_inv a1
  exact KeepP.same (by omega) a (by rw[b,b1]) (by omega)
theorem stepP_keep {v:PE} {s s2:PS} {x:XI} {f:Int} {w:Nat} {tk gv:List UInt8} (h:stepP v s x f w tk gv=.ok s2) (hi:InvP s) (hr:∀i,(v.m.sigs.getD i noSg).r.length≤1000) (hg:gv.length≤1000):KeepP s s2 x.code:=by
 unfold stepP at h
 split at h
 ·rename_i hc
  exact controlP_keep hc h hi
 ·rename_i hc
  have hn:x.code=2∨x.code=3∨x.code=4∨x.code=11→False:=by
   intro hq
   apply hc
   unfold ctrlC
   rcases hq with e|e|e|e<;>rw[e]<;>rfl
  split at h
  ·obtain⟨a,b,c⟩:=variableP_ok h hi
   exact KeepP.same (by omega) a (by rw[b]) hn
  split at h
  ·obtain⟨a,b,c⟩:=callP_ok h hi hr
   exact KeepP.same (by omega) a (by rw[b]) hn
  split at h
  ·obtain⟨a,b,c⟩:=accessP_ok h hi
   exact KeepP.same (by omega) a (by rw[b]) hn
  split at h
  ·obtain⟨a,b,c⟩:=bulkP_ok h hi
   exact KeepP.same (by omega) a (by rw[b]) hn
  ·obtain⟨a,b,c⟩:=applyP_ok h hi
   exact KeepP.same (by omega) a (by rw[b]) hn
def NR (s:PS) (ns:NS):Prop:=ns.closed=false→InvP s∧s.bl.length=ns.opn.length+1
theorem goN_cons {cs:List Int} {c:Int} {r:List Int} {k:Nat} {ns:NS} (h:(goN cs (c::r) k ns).2.1=0):ns.closed=false∧(stepN cs c k ns).1=0∧(goN cs r (k+1) (stepN cs c k ns).2).2.1=0:=by
 rw[goN]at h
 split at h
 ·rename_i hne
  exact absurd h hne
 ·rename_i he
  have he:(stepN cs c k ns).1=0:=by omega
  refine⟨?_,he,h⟩
  cases hc:ns.closed with
  | false=>rfl
  | true=>unfold stepN at he;rw[if_pos hc]at he;cases he
theorem NR.step {cs:List Int} {k:Nat} {ns:NS} {c:Int} {s s2:PS} (hc:ns.closed=false) (he:(stepN cs c k ns).1=0) (h:NR s ns) (hk:KeepP s s2 c):NR s2 (stepN cs c k ns).2:=by
 obtain⟨hi,hl⟩:=h hc
 intro hn
 unfold stepN at he hn ⊢
 rw[hc]at he hn ⊢
 simp only[Bool.false_eq_true,if_false]at he hn ⊢
 by_cases ho:opensC c
 ·rw[if_pos ho]at he hn ⊢
  obtain⟨a,b⟩:=hk.opn ho
  by_cases h64:ns.opn.length=64
  ·rw[if_pos h64]at he;cases he
  ·rw[if_neg h64]
   exact⟨a,by simp;omega⟩
 ·rw[if_neg ho]at he hn ⊢
  by_cases h5:c=5
  ·obtain⟨a,b⟩:=hk.els ho (by omega)
   rw[if_pos h5]at he hn ⊢
   split at he
   ·cases he
   ·split at he
    ·rename_i t ht hq
     rw[if_pos hq]
     exact⟨a,by show _=ns.opn.length+1;omega⟩
    ·cases he
  ·rw[if_neg h5]at he hn ⊢
   by_cases h11:c=11
   ·rw[if_pos h11]at he hn ⊢
    cases hg:ns.opn.getLast? with
    | none=>rw[hg]at hn;cases hn
    | some t =>
     have hne:1≤ns.opn.length:=by
      cases hq:ns.opn with
      | nil=>rw[hq]at hg;cases hg
      | cons a b=>simp
     obtain⟨a,b⟩:=hk.cls h11 (by omega)
     exact⟨a,by simp;omega⟩
   ·rw[if_neg h11]
    obtain⟨a,b⟩:=hk.els ho h11
    exact⟨a,by show _=ns.opn.length+1;omega⟩
theorem startP_inv (r:List UInt8) (h:r.length≤1000):InvP ⟨[],[⟨false,false,r,0,false⟩]⟩ :=
 ⟨by simp,Nat.le_refl _,by simp,fun b hb=>by simp at hb;subst hb;exact h⟩
theorem KeepP.len {s s2:PS} {c:Int} (h:KeepP s s2 c) (hi:InvP s):s2.bl.length≤s.bl.length+1:=by
 have hl:=List.length_pos_iff.2 hi.ne
 by_cases ho:opensC c
 ·have:=(h.opn ho).2;omega
 ·by_cases h11:c=11
  ·by_cases h1:s.bl.length=1
   ·rw[h.last h11 h1];simp
   ·have:=(h.cls h11 (by omega)).2;omega
  ·have:=(h.els ho h11).2;omega
end Go.Proofs.YtomppgohoplemaaGreat
