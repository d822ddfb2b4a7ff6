import Derived.Below
import Derived.Lib.BitFns
import Derived.WalkKit
import Derived.WalkSpells
import Derived.WalkLawsBesides
import Derived.Lib.Hide
import Derived.Maps.AppendAt
import Derived.Deep.AppendLies
import Derived.Deep.Draws
import Derived.Laws.OwnMore
set_option linter.unusedVariables false
namespace Go.Proofs.YtmekgpdfiimofaaGreatDoor
structure NS where
 spans:List (Int×Int×Int)
 opn:List Nat
 closed:Bool
 deep:Nat
def opensC (c:Int):Prop:=c=2∨c=3∨c=4
instance (c:Int):Decidable (opensC c):=by unfold opensC;infer_instance
def spanN (s:NS) (t:Nat):Int×Int×Int:=s.spans.getD t (0,0,0)
def codeN (cs:List Int) (i:Int):Int:=cs.getD i.toNat 0
def stepN (cs:List Int) (c:Int) (i:Nat) (s:NS):Nat×NS :=
 if s.closed then (4,s)
 else if opensC c then
  if s.opn.length=64 then (15,s)
  else (0,{ spans:=s.spans++[((i:Int),-1,-1)],opn:=s.opn++[s.spans.length],closed:=false,deep:=max s.deep (s.opn.length+1) })
 else if c=5 then
  match s.opn.getLast? with
  | none=>(4,s)
  | some t=>if codeN cs (spanN s t).1=4∧(spanN s t).2.1=-1 then (0,{ s with spans:=s.spans.set t ((spanN s t).1,(i:Int),(spanN s t).2.2) })else (4,s)
 else if c=11 then
  match s.opn.getLast? with
  | none=>(0,{ s with closed:=true })
  | some t=>(0,{ s with spans:=s.spans.set t ((spanN s t).1,(spanN s t).2.1,(i:Int)),opn:=s.opn.dropLast })
 else (0,s)
def initN:NS:=⟨[],[],false,0⟩
def goN (cs:List Int):List Int→Nat→NS→Nat×Nat×NS
 | [],i,s=>if s.closed then (0,0,s)else (i,4,s)
 | c::r,i,s=>if (stepN cs c i s).1≠0 then (i,(stepN cs c i s).1,(stepN cs c i s).2)else goN cs r (i+1) (stepN cs c i s).2
structure NInv (cs:List Int) (i:Nat) (s:NS):Prop where
 cnt:s.spans.length=((cs.take i).filter (fun c=>decide (opensC c))).length
 beg:∀(j:Nat) x,s.spans[j]?=some x→0≤x.1∧x.1<i∧opensC (codeN cs x.1)
 inc:∀(k j:Nat) x y,k<j→s.spans[k]?=some x→s.spans[j]?=some y→x.1<y.1
 els:∀(j:Nat) x,s.spans[j]?=some x→x.2.1=-1∨(x.1<x.2.1∧x.2.1<i∧codeN cs x.2.1=5∧codeN cs x.1=4∧(j∈s.opn∨x.2.1<x.2.2))
 olt:∀t∈s.opn,t<s.spans.length
 oinc:s.opn.Pairwise (·<·)
 cls:∀(j:Nat) x,s.spans[j]?=some x→j∉s.opn→x.1<x.2.2∧x.2.2<i∧codeN cs x.2.2=11
 nest:∀(k j:Nat) x y,k<j→s.spans[k]?=some x→s.spans[j]?=some y→k∉s.opn→x.2.2<y.1∨(j∉s.opn∧y.2.2<x.2.2)
 clo:s.closed=true→s.opn=[]
theorem NInv.init (cs:List Int):NInv cs 0 initN:=by
 constructor<;>simp[initN]
theorem getLast_mem {α:Type} {l:List α} {t:α} (h:l.getLast?=some t):t∈l:=List.mem_of_getLast? h
theorem last_max {l:List Nat} {t:Nat} (hp:l.Pairwise (·<·)) (h:l.getLast?=some t):∀x∈l,x≤t:=by
 obtain⟨r,rfl⟩:=List.getLast?_eq_some_iff.1 h
 intro x hx
 rw[List.pairwise_append]at hp
 rcases List.mem_append.1 hx with h1|h1
 ·exact Nat.le_of_lt (hp.2.2 x h1 t (by simp))
 ·simp at h1;omega
theorem drop_last {l:List Nat} {t:Nat} (hp:l.Pairwise (·<·)) (h:l.getLast?=some t):∀x,x∈l.dropLast↔x∈l∧x≠t:=by
 obtain⟨r,rfl⟩:=List.getLast?_eq_some_iff.1 h
 intro x
 rw[List.pairwise_append]at hp
 simp only[List.dropLast_concat,List.mem_append,List.mem_singleton]
 constructor
 ·intro hx
  exact⟨.inl hx,fun e=>by subst e;have:=hp.2.2 x hx x (by simp);omega⟩
 ·rintro⟨h1|h1,h2⟩
  ·exact h1
  ·exact absurd h1 h2
theorem NInv.step {cs:List Int} {i:Nat} {s:NS} {c:Int} (h:NInv cs i s) (hc:cs[i]?=some c) (he:(stepN cs c i s).1=0):NInv cs (i+1) (stepN cs c i s).2:=by
 have hcode:codeN cs (i:Int)=c:=by
  unfold codeN
  rw[Int.toNat_natCast,List.getD_eq_getElem?_getD,hc]
  rfl
 obtain⟨hil,hcv⟩:=List.getElem?_eq_some_iff.1 hc
 have htake:((cs.take (i+1)).filter (fun c=>decide (opensC c))).length=((cs.take i).filter (fun c=>decide (opensC c))).length+(if opensC c then 1 else 0):=by
  rw[List.take_succ_eq_append_getElem hil,hcv,List.filter_append,List.length_append]
  by_cases ho:opensC c<;>simp[ho]
 by_cases hcl:s.closed=true
 ·unfold stepN at he;rw[if_pos hcl]at he;cases he
 ·by_cases ho:opensC c
  ·by_cases h64:s.opn.length=64
   ·unfold stepN at he;rw[if_neg hcl,if_pos ho,if_pos h64]at he;cases he
   ·have e:(stepN cs c i s).2={ spans:=s.spans++[((i:Int),-1,-1)],opn:=s.opn++[s.spans.length],closed:=false,deep:=max s.deep (s.opn.length+1) }:=by
     unfold stepN;rw[if_neg hcl,if_pos ho,if_neg h64]
    rw[e]
    have hsp:∀(j:Nat) x,(s.spans++[((i:Int),-1,-1)])[j]?=some x→(j<s.spans.length∧s.spans[j]?=some x)∨(j=s.spans.length∧x=((i:Int),-1,-1)):=by
     intro j x hx
     by_cases hj:j<s.spans.length
     ·rw[List.getElem?_append_left hj]at hx;exact .inl ⟨hj,hx⟩
     ·rw[List.getElem?_append_right (by omega)]at hx
      have:=(List.getElem?_eq_some_iff.1 hx).1
      simp at this
      rw[show j-s.spans.length=0 from by omega]at hx
      exact .inr ⟨by omega,by simpa using hx.symm⟩
    refine⟨?_,?_,?_,?_,?_,?_,?_,?_,?_⟩
    ·rw[htake,if_pos ho,←h.cnt];simp
    ·intro j x hx
     rcases hsp j x hx with ⟨_,hx⟩|⟨_,rfl⟩
     ·obtain⟨a,b,d⟩:=h.beg j x hx
      exact⟨a,by omega,d⟩
     ·exact⟨by simp,by simp;omega,by show opensC (codeN cs (i:Int));rw[hcode];exact ho⟩
    ·intro k j x y hkj hx hy
     rcases hsp k x hx with ⟨hk,hx⟩|⟨hk,rfl⟩
     ·rcases hsp j y hy with ⟨_,hy⟩|⟨_,rfl⟩
      ·exact h.inc k j x y hkj hx hy
      ·exact(h.beg k x hx).2.1
     ·rcases hsp j y hy with ⟨hj,hy⟩|⟨hj,rfl⟩<;>omega
    ·intro j x hx
     rcases hsp j x hx with ⟨_,hx⟩|⟨_,rfl⟩
     ·rcases h.els j x hx with a|⟨a,b,d,e,f⟩
      ·exact .inl a
      ·exact .inr ⟨a,by omega,d,e,f.elim (fun g=>.inl (List.mem_append_left _ g)) .inr⟩
     ·exact .inl rfl
    ·intro t ht
     simp only[List.length_append,List.length_cons,List.length_nil]
     rcases List.mem_append.1 ht with h1|h1
     ·have:=h.olt t h1;omega
     ·simp at h1;omega
    ·rw[List.pairwise_append]
     refine⟨h.oinc,by simp,fun a ha b hb=>?_⟩
     simp at hb
     subst hb
     exact h.olt a ha
    ·intro j x hx hj
     rcases hsp j x hx with ⟨_,hx⟩|⟨hj',rfl⟩
     ·obtain⟨a,b,d⟩:=h.cls j x hx (fun g=>hj (List.mem_append_left _ g))
      exact⟨a,by omega,d⟩
     ·exact absurd (List.mem_append_right s.opn (by simp[hj'])) hj
    ·intro k j x y hkj hx hy hk
     rcases hsp k x hx with ⟨hk',hx⟩|⟨hk',rfl⟩
     ·have hk2:k∉s.opn:=fun g=>hk (List.mem_append_left _ g)
      rcases hsp j y hy with ⟨hj',hy⟩|⟨_,rfl⟩
      ·rcases h.nest k j x y hkj hx hy hk2 with a|⟨a,b⟩
       ·exact .inl a
       ·refine .inr ⟨fun g=>?_,b⟩
        rcases List.mem_append.1 g with g|g
        ·exact a g
        ·simp at g;omega
      ·exact .inl (h.cls k x hx hk2).2.1
     ·rcases hsp j y hy with ⟨hj,hy⟩|⟨hj,rfl⟩<;>omega
    ·intro g;cases g
  ·have htk:((cs.take (i+1)).filter (fun c=>decide (opensC c))).length=((cs.take i).filter (fun c=>decide (opensC c))).length:=by rw[htake,if_neg ho];rfl
   by_cases h5:c=5
   ·cases hl:s.opn.getLast? with
    | none=>unfold stepN at he;rw[if_neg hcl,if_neg ho,if_pos h5,hl]at he;cases he
    | some t =>
     by_cases hq:codeN cs (spanN s t).1=4∧(spanN s t).2.1=-1
     ·have e:(stepN cs c i s).2={ s with spans:=s.spans.set t ((spanN s t).1,(i:Int),(spanN s t).2.2) }:=by
       unfold stepN;rw[if_neg hcl,if_neg ho,if_pos h5,hl];simp only;rw[if_pos hq]
      rw[e]
      have htm:=getLast_mem hl
      have htl:=h.olt t htm
      have hst:s.spans[t]?=some (spanN s t):=by unfold spanN;rw[List.getD_eq_getElem?_getD,List.getElem?_eq_getElem htl];rfl
      have hsp:∀(j:Nat) x,(s.spans.set t ((spanN s t).1,(i:Int),(spanN s t).2.2))[j]?=some x→(j≠t∧s.spans[j]?=some x)∨(j=t∧x=((spanN s t).1,(i:Int),(spanN s t).2.2)):=by
       intro j x hx
       by_cases hj:j=t
       ·subst hj
        rw[List.getElem?_set_self htl]at hx
        exact .inr ⟨rfl,by simpa using hx.symm⟩
       ·rw[List.getElem?_set_ne (fun e=>hj e.symm)]at hx
        exact .inl ⟨hj,hx⟩
      have hin:∀(j:Nat) x,(s.spans.set t ((spanN s t).1,(i:Int),(spanN s t).2.2))[j]?=some x→∃y,s.spans[j]?=some y∧x.1=y.1∧x.2.2=y.2.2:=by
       intro j x hx
       rcases hsp j x hx with ⟨_,hx⟩|⟨rfl,rfl⟩
       ·exact⟨x,hx,rfl,rfl⟩
       ·exact⟨_,hst,rfl,rfl⟩
      refine⟨by rw[htk,←h.cnt];simp,?_,?_,?_,by simpa using h.olt,h.oinc,?_,?_,h.clo⟩
      ·intro j x hx
       obtain⟨y,hy,e1,_⟩:=hin j x hx
       obtain⟨a,b,d⟩:=h.beg j y hy
       rw[e1]
       exact⟨a,by omega,d⟩
      ·intro k j x y hkj hx hy
       obtain⟨x',hx',e1,_⟩:=hin k x hx
       obtain⟨y',hy',e2,_⟩:=hin j y hy
       rw[e1,e2]
       exact h.inc k j x' y' hkj hx' hy'
      ·intro j x hx
       rcases hsp j x hx with ⟨_,hx⟩|⟨rfl,rfl⟩
       ·rcases h.els j x hx with a|⟨a,b,d,e,f⟩
        ·exact .inl a
        ·exact .inr ⟨a,by omega,d,e,f⟩
       ·exact .inr ⟨(h.beg _ _ hst).2.1,by simp;omega,by show codeN cs (i:Int)=5;rw[hcode];exact h5,hq.1,.inl htm⟩
      ·intro j x hx hj
       obtain⟨y,hy,e1,e2⟩:=hin j x hx
       obtain⟨a,b,d⟩:=h.cls j y hy hj
       rw[e1,e2]
       exact⟨a,by omega,d⟩
      ·intro k j x y hkj hx hy hk
       obtain⟨x',hx',e1,e3⟩:=hin k x hx
       obtain⟨y',hy',e2,e4⟩:=hin j y hy
       rw[e2,e3,e4]
       exact h.nest k j x' y' hkj hx' hy' hk
     ·unfold stepN at he;rw[if_neg hcl,if_neg ho,if_pos h5,hl]at he;simp only at he;rw[if_neg hq]at he;cases he
   ·by_cases h11:c=11
    ·cases hl:s.opn.getLast? with
     | none =>
      have e:(stepN cs c i s).2={ s with closed:=true }:=by unfold stepN;rw[if_neg hcl,if_neg ho,if_neg h5,if_pos h11,hl]
      rw[e]
      have hnil:s.opn=[]:=List.getLast?_eq_none_iff.1 hl
      refine⟨by rw[htk,←h.cnt],fun j x hx=>?_,h.inc,fun j x hx=>?_,h.olt,h.oinc,fun j x hx hj=>?_,h.nest,fun _=>hnil⟩
      ·obtain⟨a,b,d⟩:=h.beg j x hx
       exact⟨a,by omega,d⟩
      ·rcases h.els j x hx with a|⟨a,b,d,e,f⟩
       ·exact .inl a
       ·exact .inr ⟨a,by omega,d,e,f⟩
      ·obtain⟨a,b,d⟩:=h.cls j x hx hj
       exact⟨a,by omega,d⟩
     | some t =>
      have e:(stepN cs c i s).2={ s with spans:=s.spans.set t ((spanN s t).1,(spanN s t).2.1,(i:Int)),opn:=s.opn.dropLast }:=by
       unfold stepN;rw[if_neg hcl,if_neg ho,if_neg h5,if_pos h11,hl]
      rw[e]
      have htm:=getLast_mem hl
      have htl:=h.olt t htm
      have hst:s.spans[t]?=some (spanN s t):=by unfold spanN;rw[List.getD_eq_getElem?_getD,List.getElem?_eq_getElem htl];rfl
      have hmax:=last_max h.oinc hl
      have hdl:=drop_last h.oinc hl
      have hsp:∀(j:Nat) x,(s.spans.set t ((spanN s t).1,(spanN s t).2.1,(i:Int)))[j]?=some x→(j≠t∧s.spans[j]?=some x)∨(j=t∧x=((spanN s t).1,(spanN s t).2.1,(i:Int))):=by
       intro j x hx
       by_cases hj:j=t
       ·subst hj
        rw[List.getElem?_set_self htl]at hx
        exact .inr ⟨rfl,by simpa using hx.symm⟩
       ·rw[List.getElem?_set_ne (fun e=>hj e.symm)]at hx
        exact .inl ⟨hj,hx⟩
      have hin:∀(j:Nat) x,(s.spans.set t ((spanN s t).1,(spanN s t).2.1,(i:Int)))[j]?=some x→∃y,s.spans[j]?=some y∧x.1=y.1∧x.2.1=y.2.1:=by
       intro j x hx
       rcases hsp j x hx with ⟨_,hx⟩|⟨rfl,rfl⟩
       ·exact⟨x,hx,rfl,rfl⟩
       ·exact⟨_,hst,rfl,rfl⟩
      refine⟨by rw[htk,←h.cnt];simp,?_,?_,?_,?_,?_,?_,?_,fun g=>?_⟩
      ·intro j x hx
       obtain⟨y,hy,e1,_⟩:=hin j x hx
       obtain⟨a,b,d⟩:=h.beg j y hy
       rw[e1]
       exact⟨a,by omega,d⟩
      ·intro k j x y hkj hx hy
       obtain⟨x',hx',e1,_⟩:=hin k x hx
       obtain⟨y',hy',e2,_⟩:=hin j y hy
       rw[e1,e2]
       exact h.inc k j x' y' hkj hx' hy'
      ·intro j x hx
       rcases hsp j x hx with ⟨hjt,hx⟩|⟨rfl,rfl⟩
       ·rcases h.els j x hx with a|⟨a,b,d,e,f⟩
        ·exact .inl a
        ·refine .inr ⟨a,by omega,d,e,f.elim (fun g=>.inl ((hdl j).2 ⟨g,hjt⟩)) .inr⟩
       ·rcases h.els _ _ hst with a|⟨a,b,d,e,f⟩
        ·exact .inl a
        ·exact .inr ⟨a,by simp only;omega,d,e,.inr b⟩
      ·intro u hu
       rw[List.length_set]
       exact h.olt u ((hdl u).1 hu).1
      ·exact List.Pairwise.sublist (List.dropLast_sublist _) h.oinc
      ·intro j x hx hj
       rcases hsp j x hx with ⟨hjt,hx⟩|⟨rfl,rfl⟩
       ·obtain⟨a,b,d⟩:=h.cls j x hx (fun g=>hj ((hdl j).2 ⟨g,hjt⟩))
        exact⟨a,by omega,d⟩
       ·exact⟨(h.beg _ _ hst).2.1,by simp;omega,by show codeN cs (i:Int)=11;rw[hcode];exact h11⟩
      ·intro k j x y hkj hx hy hk
       rcases hsp k x hx with ⟨hkt,hx1⟩|⟨rfl,rfl⟩
       ·have hk2:k∉s.opn:=fun g=>hk ((hdl k).2 ⟨g,hkt⟩)
        rcases hsp j y hy with ⟨hjt,hy⟩|⟨rfl,rfl⟩
        ·rcases h.nest k j x y hkj hx1 hy hk2 with a|⟨a,b⟩
         ·exact .inl a
         ·exact .inr ⟨fun g=>a ((hdl j).1 g).1,b⟩
        ·rcases h.nest k _ x _ hkj hx1 hst hk2 with a|⟨a,b⟩
         ·exact .inl a
         ·exact absurd htm a
       ·rcases hsp j y hy with ⟨hjt,hy⟩|⟨rfl,rfl⟩
        ·have hjo:j∉s.opn:=fun g=>by have:=hmax j g;omega
         exact .inr ⟨fun g=>hjo ((hdl j).1 g).1,(h.cls j y hy hjo).2.1⟩
        ·omega
      ·have:=h.clo g
       rw[this]at hl
       cases hl
    ·have e:(stepN cs c i s).2=s:=by unfold stepN;rw[if_neg hcl,if_neg ho,if_neg h5,if_neg h11]
     rw[e]
     refine⟨by rw[htk,←h.cnt],fun j x hx=>?_,h.inc,fun j x hx=>?_,h.olt,h.oinc,fun j x hx hj=>?_,h.nest,h.clo⟩
     ·obtain⟨a,b,d⟩:=h.beg j x hx
      exact⟨a,by omega,d⟩
     ·rcases h.els j x hx with a|⟨a,b,d,e,f⟩
      ·exact .inl a
      ·exact .inr ⟨a,by omega,d,e,f⟩
     ·obtain⟨a,b,d⟩:=h.cls j x hx hj
      exact⟨a,by omega,d⟩
end Go.Proofs.YtmekgpdfiimofaaGreatDoor
namespace Go.Proofs.YtmekgpdfiimofaaGreatDoor
def goP (cs:List Int) (i:Nat) (s:NS):Nat×Nat:=((goN cs (cs.drop i) i s).1,(goN cs (cs.drop i) i s).2.1)
structure Kept (s s':NS):Prop where
 opn:s'.opn=s.opn
 closed:s'.closed=false
 len:s.spans.length≤s'.spans.length
 sp:∀t,t<s.spans.length→spanN s' t=spanN s t
theorem Kept.refl {s:NS} (h:s.closed=false):Kept s s:=⟨rfl,h,Nat.le_refl _,fun _ _=>rfl⟩
theorem Kept.trans {a b c:NS} (h:Kept a b) (k:Kept b c):Kept a c:=⟨k.opn.trans h.opn,k.closed,Nat.le_trans h.len k.len,fun t ht=>(k.sp t (Nat.lt_of_lt_of_le ht h.len)).trans (h.sp t ht)⟩
end Go.Proofs.YtmekgpdfiimofaaGreatDoor
namespace Go.Proofs.YtmekgpdfiimofaaGreatDoor
def cntN (n:Nat):Nat:=(n+6)/7
theorem and127 (x:Nat):x &&& 127=x%128:=Nat.and_two_pow_sub_one_eq_mod x 7
def putF:Nat→Nat→List UInt8
 | 0,n=>[UInt8.ofNat n]
 | k+1,n=>if n<128 then [UInt8.ofNat n]else UInt8.ofNat (n%128+128)::putF k (n/128)
def putN (n:Nat):List UInt8:=putF 9 n
theorem putF_more:∀(k n:Nat),n<128^(k+1)→putF (k+1) n=putF k n:=by
 intro k
 induction k with
 | zero=>intro n h;simp only[putF];rw[if_pos (by simpa using h)]
 | succ k ih =>
  intro n h
  by_cases h1:n<128
  ·rw[putF,if_pos h1,putF,if_pos h1]
  ·rw[putF,if_neg h1,ih (n/128) (by rw[Nat.div_lt_iff_lt_mul (by omega)];rw[Nat.pow_succ]at h;exact h)]
   rw[putF,if_neg h1]
theorem putN_small (n:Nat) (h:n<128):putN n=[UInt8.ofNat n]:=by
 unfold putN;rw[putF,if_pos h]
theorem putN_step (n:Nat) (h:128≤n) (h2:n<2^64):putN n=UInt8.ofNat (n%128+128)::putN (n/128):=by
 unfold putN
 rw[putF,if_neg (by omega),putF_more 8]
 omega
theorem putF_length:∀(k n:Nat),1≤(putF k n).length∧(putF k n).length≤k+1:=by
 intro k
 induction k with
 | zero=>intro n;simp[putF]
 | succ k ih =>
  intro n
  rw[putF]
  split
  ·simp
  ·have:=ih (n/128);simp;omega
def magN (n:Int):Nat:=if n<0 then (-n-1).toNat else n.toNat
def sizeS (n:Int):Nat:=(Lib.bitLen (magN n)+7)/7
def putS:Nat→Int→List UInt8
 | 0,n=>[UInt8.ofNat (n%128).toNat]
 | k+1,n=>UInt8.ofNat ((n%128).toNat+128)::putS k (n/128)
def putSN (n:Int):List UInt8:=putS (sizeS n-1) n
theorem putS_length:∀(k:Nat) (n:Int),(putS k n).length=k+1:=by
 intro k
 induction k with
 | zero=>intro n;rfl
 | succ k ih=>intro n;rw[putS,List.length_cons,ih]
theorem magN_lt (n:Int) (h1:-9223372036854775808≤n) (h2:n≤9223372036854775807):magN n<2^63:=by
 unfold magN;simp only[Nat.reducePow];split<;>omega
theorem sizeS_bd (n:Int) (h1:-9223372036854775808≤n) (h2:n≤9223372036854775807):1≤sizeS n∧sizeS n≤10:=by
 have:=Lib.bitLen_le (magN n) 63 (by omega) (magN_lt n h1 h2)
 unfold sizeS;omega
theorem putN_length (n:Nat):1≤(putN n).length∧(putN n).length≤10:=putF_length 9 n
end Go.Proofs.YtmekgpdfiimofaaGreatDoor
namespace Go.Proofs.YtmekgpdfiimofaaGreatDoor
open Go.RowKit
theorem hide {p:Prop} (h:p):Hid p:=h
theorem ret_int {k:IntKind} {a b:Int} (h:a=b):Ending.returned (.int k a)=.returned (.int k b):=by rw[h]
theorem int_congr {k:IntKind} {a b:Int} (h:a=b):Value.int k a=Value.int k b:=by rw[h]
theorem results_tmp4 {fn:Func} {t u v x:Tmp} (h:fn.results=#[.tmp t,.tmp u,.tmp v,.tmp x]) (tmps:Array Value) (P:Program) (w:World) :
  (results fn tmps).run P w=.ok (.tuple #[tmps.getD t undef,tmps.getD u undef,tmps.getD v undef,tmps.getD x undef]) w:=by simp[results,h]
def B (b:UInt8):Value:=.int .u8 (b.toNat:Int)
theorem B_ofNat (n:Nat) (h:n<256):Value.int .u8 (n:Int)=B (UInt8.ofNat n):=by
 unfold B
 have:(UInt8.ofNat n).toNat=n:=by simp[UInt8.toNat_ofNat'];omega
 rw[this]
theorem B_map_one (bs:List UInt8):∀u∈bs.map B,u.oneCell'=true:=by
 intro u hu;obtain⟨b,_,rfl⟩:=List.mem_map.1 hu;rfl
theorem block_of_add (a:Addr) (n:Nat):(a.add n).block=a.block:=by unfold Addr.add;split<;>rfl
theorem add_of_add (a:Addr) (i j:Nat):(a.add i).add j=a.add (i+j):=by
 unfold Addr.add
 by_cases hi:i=0<;>by_cases hj:j=0<;>simp[hi,hj,Nat.add_assoc]
def Reads (w:World) (Bk size:Nat) (A:Option Addr) (n:Nat) (xs:List Value):Prop :=
 xs.length=n*size∧(0<n→∃ad,A=some ad∧ad.block<Bk∧∀j u,xs[j]?=some u→w.cell? (ad.add j)=some u)
section
variable {w w':World} {Bk Bk' size n:Nat} {A:Option Addr} {xs:List Value}
theorem Reads.none_:Reads w Bk size A 0 []:=⟨by simp,fun h=>absurd h (by omega)⟩
theorem Reads.at_ {k:Nat} (h:Reads w Bk 1 A n xs) (hk:k<n):∃ad u,A=some ad∧ad.block<Bk∧xs[k]?=some u∧w.cell? (ad.add k)=some u:=by
 obtain⟨ad,e,hb,hc⟩:=h.2 (by omega)
 have hl:k<xs.length:=by have:=h.1;omega
 exact⟨ad,xs[k],e,hb,List.getElem?_eq_getElem hl,hc k _ (List.getElem?_eq_getElem hl)⟩
theorem Reads.elem {α:Type} {f:α→Value} {ys:List α} {k:Nat} (h:Reads w Bk 1 A ys.length (ys.map f)) (hk:k<ys.length) :
  ∃(ad:Addr) (c:α),A=some ad∧Hid (ys[k]?=some c)∧w.cell? (ad.add k)=some (f c):=by
 obtain⟨ad,u,h1,_,h2,h3⟩:=h.at_ hk
 refine⟨ad,ys[k],h1,List.getElem?_eq_getElem hk,?_⟩
 rw[h3]
 rw[List.getElem?_map,List.getElem?_eq_getElem hk]at h2
 exact h2.symm
theorem Reads.byte {bs:List UInt8} {k:Nat} (h:Reads w Bk 1 A bs.length (bs.map B)) (hk:k<bs.length) :
  ∃(ad:Addr) (c:UInt8),A=some ad∧Hid (bs[k]?=some c)∧w.cell? (ad.add k)=some (.int .u8 (c.toNat:Int))∧(0:Int)≤(c.toNat:Int)∧(c.toNat:Int)≤255:=by
 obtain⟨ad,c,h1,h2,h3⟩:=h.elem hk
 have:=c.toNat_lt
 exact⟨ad,c,h1,h2,h3,by omega,by omega⟩
theorem Reads.keep (h:Reads w Bk size A n xs) (hk:∀p:Addr,p.block<Bk→w'.cell? p=w.cell? p):Reads w' Bk size A n xs :=
 ⟨h.1,fun hn=>by
  obtain⟨ad,e,hb,hc⟩:=h.2 hn
  exact⟨ad,e,hb,fun j u hu=>(hk _ (by rw[block_of_add];exact hb)).trans (hc j u hu)⟩⟩
theorem Reads.more (h:Reads w Bk size A n xs) (hB:Bk≤Bk'):Reads w Bk' size A n xs :=
 ⟨h.1,fun hn=>by
  obtain⟨ad,e,hb,hc⟩:=h.2 hn
  exact⟨ad,e,by omega,hc⟩⟩
theorem Reads.below (h:Reads w Bk size A n xs) (hb:Below Bk w w'):Reads w' Bk size A n xs:=h.keep fun _ hp=>hb.cell hp
theorem Reads.drew (h:Reads w Bk size A n xs):Reads w.drew Bk size A n xs:=h
theorem Reads.drewN (h:Reads w Bk size A n xs) (k:Nat):Reads (w.drewN k) Bk size A n xs:=h
theorem Reads.alloc (h:Reads w Bk size A n xs) (hB:Bk≤w.heap.size) (o:Obj):Reads (w.alloc o) Bk size A n xs:=h.keep fun p hp=>World.cell?_alloc_lt w o p (by omega)
theorem Reads.setCell (h:Reads w Bk size A n xs) {p:Addr} (hB:Bk≤p.block) (u:Value):Reads (w.setCell p u) Bk size A n xs :=
 h.keep fun q hq=>World.cell?_setCell_other w p q u (fun e=>by subst e;omega)
theorem Reads.grown (h:Reads w Bk size A n xs) {row:Option Nat} (hg:w.grownBy w' row) (hB:Bk≤w.heap.size) (hr:∀g,row=some g→Bk≤g):Reads w' Bk size A n xs :=
 h.keep fun p hp=>World.cell?_of_block (hg.block p.block (by omega) (fun e=>by have:=hr _ e.symm;omega))
theorem Reads.cut (h:Reads w Bk size A n xs) {k cap:Nat} (hk:k≤n) (hc:n≤cap) :
  Reads w Bk size (if cap=k then A else A.map (·.add (k*size))) (n-k) (xs.drop (k*size)):=by
 refine⟨by rw[List.length_drop,h.1,Nat.sub_mul],fun hn=>?_⟩
 obtain⟨ad,rfl,hb,hcell⟩:=h.2 (by omega)
 rw[if_neg (by omega)]
 refine⟨ad.add (k*size),rfl,by rw[block_of_add];exact hb,fun j u hu=>?_⟩
 rw[add_of_add]
 exact hcell _ u (by rw[←hu,List.getElem?_drop])
theorem Reads.upto (h:Reads w Bk size A n xs) {k:Nat} (hk:k≤n):Reads w Bk size A k (xs.take (k*size)):=by
 refine⟨by rw[List.length_take,h.1,Nat.min_eq_left (Nat.mul_le_mul_right _ hk)],fun hn=>?_⟩
 obtain⟨ad,rfl,hb,hcell⟩:=h.2 (by omega)
 refine⟨ad,rfl,hb,fun j u hu=>hcell j u ?_⟩
 rw[List.getElem?_take]at hu
 split at hu
 ·exact hu
 ·cases hu
theorem Reads.of_own {base:Nat} {e:TypeId} {c:Nat} (h:w.ownsRow base e size (.slice A n c) n xs):Reads w w.heap.size size A n xs:=by
 refine⟨h.1,fun hn=>?_⟩
 obtain⟨g,cap,hv,_,hlt⟩:=h.form hn
 have hA:A=some ⟨g,0,none⟩:=by injection hv
 subst hA
 exact⟨_,rfl,hlt,h.cells (g:=g) rfl⟩
theorem Reads.of_new (w:World) (cs:List Value) (e:TypeId) (n:Nat) (hn:cs.length=n):Reads (w.alloc (.cells cs.toArray e)) (w.heap.size+1) 1 (some ⟨w.heap.size,0,none⟩) n cs:=by
 refine⟨by omega,fun _=>⟨_,rfl,by simp,fun j u hu=>?_⟩⟩
 have hadd:(⟨w.heap.size,0,none⟩:Addr).add j=⟨w.heap.size,j,none⟩:=by unfold Addr.add;split<;>simp_all
 rw[hadd,cell_of_row (w.alloc (.cells cs.toArray e)) w.heap.size j cs.toArray e (0,0) (heap_alloc_new w _)]
 simpa using hu
end
theorem own_form {w:World} {base:Nat} {e:TypeId} {size n:Nat} {v:Value} {xs:List Value} (h:w.ownsRow base e size v n xs):∃A c,v=.slice A n c∧n≤c∧c≤maxLen:=by
 rcases h.2 with ⟨rfl,rfl⟩|⟨g,cap,cur,rfl,_,_,h1,h2,_⟩
 ·exact⟨none,0,rfl,Nat.le_refl _,by unfold maxLen;omega⟩
 ·exact⟨_,_,rfl,h1,h2⟩
structure Grows (w w':World) (v v':Value):Prop where
 by_:w.grownBy w' v.ownBlock
 lies:v'.ownBlock=v.ownBlock∨∃g,v'.ownBlock=some g∧w.heap.size≤g
theorem Grows.refl (w:World) (v:Value):Grows w w v v:=⟨⟨rfl,rfl,rfl,Nat.le_refl _,fun _ _ _=>rfl⟩,.inl rfl⟩
theorem Grows.trans {w w1 w2:World} {v v1 v2:Value} (h:Grows w w1 v v1) (k:Grows w1 w2 v1 v2):Grows w w2 v v2:=by
 refine⟨⟨k.by_.os.trans h.by_.os,k.by_.tape.trans h.by_.tape,k.by_.output.trans h.by_.output,Nat.le_trans h.by_.size k.by_.size,fun i hi hne=>?_⟩,?_⟩
 ·refine(k.by_.block i (Nat.lt_of_lt_of_le hi h.by_.size) ?_).trans (h.by_.block i hi hne)
  rcases h.lies with e|⟨g,e,hg⟩
  ·rw[e];exact hne
  ·rw[e];intro hh;injection hh with hh;omega
 ·rcases k.lies with e|⟨g,e,hg⟩
  ·rw[e];exact h.lies
  ·exact .inr ⟨g,e,Nat.le_trans h.by_.size hg⟩
theorem Grows.alloc_first {w w':World} {v v':Value} {o:Obj} (h:Grows (w.alloc o) w' v v'):Grows w w' v v':=by
 refine⟨⟨h.by_.os,h.by_.tape,h.by_.output,Nat.le_trans (by simp) h.by_.size,fun i hi hne=>(h.by_.block i (by simp;omega) hne).trans (Below.heap_alloc w o i hi)⟩,?_⟩
 rcases h.lies with e|⟨g,e,hg⟩
 ·exact .inl e
 ·exact .inr ⟨g,e,by simp at hg;omega⟩
theorem Grows.below {w w':World} {v v':Value} (h:Grows w w' v v') {Bk:Nat} (hB:Bk≤w.heap.size) (hv:∀g,v.ownBlock=some g→Bk≤g):Below Bk w w' :=
 (Below.refl _ _).grown h.by_ hB hv
theorem Grows.below' {a w w':World} {v v':Value} (h:Grows w w' v v') {Bk:Nat} (ha:Below Bk a w) (hB:Bk≤w.heap.size) (hv:∀g,v.ownBlock=some g→Bk≤g):Below Bk a w' :=
 ha.grown h.by_ hB hv
theorem Grows.of_below {w w':World} {v:Value} (h:Below w.heap.size w w'):Grows w w' v v:=⟨⟨h.os,h.tape,h.output,h.size,fun i hi _=>h.block i hi⟩,.inl rfl⟩
theorem own_ge {w:World} {base:Nat} {e:TypeId} {size n:Nat} {v:Value} {xs:List Value} (h:w.ownsRow base e size v n xs):∀g,v.ownBlock=some g→base≤g:=fun g hg=>(h.lt g hg).1
theorem own_nil (w:World) (base:Nat) (e:TypeId) (size:Nat):w.ownsRow base e size (.slice none 0 0) 0 []:=⟨by simp,.inl ⟨rfl,rfl⟩⟩
theorem own_cast {w:World} {base:Nat} {e:TypeId} {size n n':Nat} {v:Value} {xs xs':List Value} (h:w.ownsRow base e size v n xs) (hn:n=n') (hx:xs=xs'):w.ownsRow base e size v n' xs':=by subst hn;subst hx;exact h
theorem own_base {w:World} {base base':Nat} {e:TypeId} {size n:Nat} {v:Value} {xs:List Value} (h:w.ownsRow base e size v n xs) (hb:∀g,v.ownBlock=some g→base'≤g):w.ownsRow base' e size v n xs:=by
 refine⟨h.1,?_⟩
 rcases h.2 with hn|⟨g,cap,cur,rfl,_,rest⟩
 ·exact .inl hn
 ·exact .inr ⟨g,cap,cur,rfl,hb g rfl,rest⟩
def IsElem (P:Program) (t e:TypeId) (size bytes:Nat):Prop :=
 P.underlying t=some (.slice e)∧∃i z,P.info? e=some i∧i.zero=some z∧i.size=size∧i.bytes=bytes∧z.cells.size=size∧0<size
theorem IsElem.mk' {P:Program} {t e:TypeId} {z:Value} {size bytes:Nat} (ht:P.underlying t=some (.slice e)) (hi:(P.info? e).map (fun i=>(i.zero,i.size,i.bytes))=some (some z,size,bytes)) (hz:z.cells.size=size) (hs:0<size):IsElem P t e size bytes:=by
 refine⟨ht,?_⟩
 cases h:P.info? e with
 | none=>rw[h]at hi;cases hi
 | some i =>
  rw[h]at hi
  simp only[Option.map_some,Option.some.injEq,Prod.mk.injEq]at hi
  exact⟨i,z,rfl,hi.1,hi.2.1,hi.2.2,hz,hs⟩
def Room (n m bytes:Nat):Prop:=n+m≤maxLen∧(n+m)*bytes≤140737488355328
theorem room_of {n m bytes:Nat} (h:n+m≤2000000000) (hb:bytes≤1000):Room n m bytes:=by
 refine⟨by unfold maxLen;omega,?_⟩
 have:=Nat.mul_le_mul h hb
 omega
section
variable {P:Program} {w:World}
theorem run_append_of_nil (base:Nat) (t ty e:TypeId) (i:TypeInfo) (size:Nat) (ht:P.underlying t=some (.slice e)) (hi:P.info? e=some i)
  (v:Value) (n:Nat) (xs:List Value) (hown:w.ownsRow base e size v n xs) (c:Nat):(Builtin.append_ #[t,t] ty #[v,.slice none 0 c]).run P w=.ok v w:=by
 rcases hown.2 with ⟨rfl,rfl⟩|⟨g,cap,cur,rfl,_,_,hnc,_⟩
 ·simp[Builtin.append_,run_underlying ht,sizeOf,typeInfo,hi,Builtin.lenOf,Builtin.firstCells]
 ·simp[Builtin.append_,run_underlying ht,sizeOf,typeInfo,hi,Builtin.lenOf,Builtin.firstCells,hnc,storeCells]
theorem run_append_any (base:Nat) {t ty e:TypeId} {size bytes:Nat} (hE:IsElem P t e size bytes)
  (v:Value) (n:Nat) (xs:List Value) (hown:w.ownsRow base e size v n xs)
  (Bk:Nat) (A:Option Addr) (m c:Nat) (news:List Value) (hr:Reads w Bk size A m news) (h1:∀u∈news,u.oneCell'=true)
  (hroom:Room n m bytes) (hbase:base≤w.heap.size) :
  ∃v' w',(Builtin.append_ #[t,t] ty #[v,.slice A m c]).run P w=.ok v' w'∧w'.ownsRow base e size v' (n+m) (xs++news)∧Grows w w' v v':=by
 obtain⟨ht,i,z,hi,hz,hsize,hby,hzs,hsz⟩:=hE
 rcases A with _|ad
 ·have hm:m=0:=by
   rcases Nat.eq_zero_or_pos m with h0|h0
   ·exact h0
   ·obtain⟨ad,h,_⟩:=hr.2 h0
    cases h
  subst hm
  have hn:news=[]:=List.eq_nil_of_length_eq_zero (by simpa using hr.1)
  subst hn
  exact⟨v,w,run_append_of_nil base t ty e i size ht hi v n xs hown c,by simpa using hown,Grows.refl _ _⟩
 ·have hcells:∀j u,news[j]?=some u→w.cell? (ad.add j)=some u:=by
   intro j u hu
   rcases Nat.eq_zero_or_pos m with h0|h0
   ·subst h0
    have hn:news=[]:=List.eq_nil_of_length_eq_zero (by simpa using hr.1)
    subst hn
    simp at hu
   ·obtain⟨ad',h,_,hc⟩:=hr.2 h0
    injection h with h
    subst h
    exact hc j u hu
  obtain⟨v',w',hrun,h2,h3,_,h5⟩:=run_append_own_at (P:=P) w base t ty e i z size bytes ht hi hz hsize hby hzs hsz v n xs hown ad m c news hr.1 hcells h1 hroom.1 hroom.2 hbase
  refine⟨v',w',hrun,h2,h3,?_⟩
  rcases h5 with h5|h5
  ·exact .inl h5
  ·exact .inr ⟨_,h5,Nat.le_refl _⟩
theorem wp_append_any {o:Oper} {a:Act} {K:Act→World→Prop} {Q:Exit→Act→World→Prop} (s x:Operand) {t:TypeId}
  (ho:o.op=.call { callee:=.builtin .append,args:=#[s,x],argTypes:=#[t,t] })
  (base:Nat) {e:TypeId} {size bytes:Nat} (hE:IsElem P t e size bytes)
  (v:Value) (n:Nat) (xs:List Value) (hs:a.eval s=v) (hown:w.ownsRow base e size v n xs)
  (Bk:Nat) (A:Option Addr) (m c:Nat) (news:List Value) (hx:a.eval x=.slice A m c) (hr:Reads w Bk size A m news) (h1:∀u∈news,u.oneCell'=true)
  (hroom:Room n m bytes) (hbase:base≤w.heap.size)
  (h:∀v' w',w'.ownsRow base e size v' (n+m) (xs++news)→Grows w w' v v'→K (a.put o.dst v') w'):o.wp P a w K Q:=by
 obtain⟨v',w',hrun,h2,h3⟩:=run_append_any (P:=P) (w:=w) base (ty:=o.type) hE v n xs hown Bk A m c news hr h1 hroom hbase
 unfold Oper.wp execOp
 simp only[ho,resolve,invoke,builtin,Sem.run_bind,Sem.run_pure,Result.andThen_ok,List.map_toArray,List.map_cons,List.map_nil,hs,hx,hrun]
 exact h v' w' h2 h3
theorem wpList_append_any {ops:Array Oper} {rest:List Oper} {o:Oper} {a:Act} {Q:Exit→Act→World→Prop} (hgd:o.guard=none) (s x:Operand) {t:TypeId}
  (ho:o.op=.call { callee:=.builtin .append,args:=#[s,x],argTypes:=#[t,t] })
  (base:Nat) {e:TypeId} {size bytes:Nat} (hE:IsElem P t e size bytes)
  (v:Value) (n:Nat) (xs:List Value) (hs:a.eval s=v) (hown:w.ownsRow base e size v n xs)
  (Bk:Nat) (A:Option Addr) (m c:Nat) (news:List Value) (hx:a.eval x=.slice A m c) (hr:Reads w Bk size A m news) (h1:∀u∈news,u.oneCell'=true)
  (hroom:Room n m bytes) (hbase:base≤w.heap.size)
  (h:∀v' w',w'.ownsRow base e size v' (n+m) (xs++news)→Grows w w' v v'→wpList P ops Q rest (a.put o.dst v') w'):wpList P ops Q (o::rest) a w :=
 wpList_plain hgd fun _ hK=>wp_append_any s x ho base hE v n xs hs hown Bk A m c news hx hr h1 hroom hbase fun v' w' h2 h3=>hK _ _ (h v' w' h2 h3)
theorem wpList_push {ops:Array Oper} {rest:List Oper} {o:Oper} {a:Act} {Q:Exit→Act→World→Prop} (hgd:o.guard=none) (s x:Operand) {t:TypeId}
  (ho:o.op=.call { callee:=.builtin .append,args:=#[s,x],argTypes:=#[t,t] })
  (base:Nat) {e:TypeId} {bytes:Nat} (hE:IsElem P t e 1 bytes)
  (v:Value) (n:Nat) (xs:List Value) (hs:a.eval s=v) (w0:World) (u:Value) (e':TypeId) (hw:w=w0.alloc (.cells #[u] e')) (hown:w0.ownsRow base e 1 v n xs)
  (hx:a.eval x=.slice (some ⟨w0.heap.size,0,none⟩) 1 1) (h1:u.oneCell'=true)
  (hroom:Room n 1 bytes) (hbase:base≤w0.heap.size)
  (h:∀v' w',w'.ownsRow base e 1 v' (n+1) (xs++[u])→Grows w0 w' v v'→wpList P ops Q rest (a.put o.dst v') w'):wpList P ops Q (o::rest) a w:=by
 subst hw
 refine wpList_append_any hgd s x ho base hE v n xs hs (hown.alloc _) (w0.heap.size+1) _ 1 1 [u] hx (Reads.of_new w0 [u] e' 1 rfl) (by simpa using h1) hroom (by simp;omega) fun v' w' h2 h3=>h v' w' h2 h3.alloc_first
end
end Go.Proofs.YtmekgpdfiimofaaGreatDoor
