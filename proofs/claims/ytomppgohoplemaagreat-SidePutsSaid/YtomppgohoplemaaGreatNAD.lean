import Derived.Below
import Derived.Lib.BitFns
import Derived.Test.YtomppgohoplemaaGreatNAA
import Derived.Deep.WholeRow
import Derived.Laws.Tables
set_option linter.unusedVariables false
namespace Go.Proofs.YtomppgohoplemaaGreat
structure NS where
 spans:List (Int×Int×Int)
 opn:List Nat
 closed:Bool
 deep:Nat
def opensC (c:Int):Prop:=c=2∨c=3∨c=4
instance (c:Int):Decidable (opensC c):=by unfold opensC;infer_instance
def spanN (s:NS) (t:Nat):Int×Int×Int:=s.spans.getD t (0,0,0)
def codeN (cs:List Int) (i:Int):Int:=cs.getD i.toNat 0
def stepN (cs:List Int) (c:Int) (i:Nat) (s:NS):Nat×NS :=
 if s.closed then (4,s)
 else if opensC c then
  if s.opn.length=64 then (15,s)
  else (0,{ spans:=s.spans++[((i:Int),-1,-1)],opn:=s.opn++[s.spans.length],closed:=false,deep:=max s.deep (s.opn.length+1) })
 else if c=5 then
  match s.opn.getLast? with
  | none=>(4,s)
  | some t=>if codeN cs (spanN s t).1=4∧(spanN s t).2.1=-1 then (0,{ s with spans:=s.spans.set t ((spanN s t).1,(i:Int),(spanN s t).2.2) })else (4,s)
 else if c=11 then
  match s.opn.getLast? with
  | none=>(0,{ s with closed:=true })
  | some t=>(0,{ s with spans:=s.spans.set t ((spanN s t).1,(spanN s t).2.1,(i:Int)),opn:=s.opn.dropLast })
 else (0,s)
def initN:NS:=⟨[],[],false,0⟩
def goN (cs:List Int):List Int→Nat→NS→Nat×Nat×NS
 | [],i,s=>if s.closed then (0,0,s)else (i,4,s)
 | c::r,i,s=>if (stepN cs c i s).1≠0 then (i,(stepN cs c i s).1,(stepN cs c i s).2)else goN cs r (i+1) (stepN cs c i s).2
structure NInv (cs:List Int) (i:Nat) (s:NS):Prop where
 cnt:s.spans.length=((cs.take i).filter (fun c=>decide (opensC c))).length
 beg:∀(j:Nat) x,s.spans[j]?=some x→0≤x.1∧x.1<i∧opensC (codeN cs x.1)
 inc:∀(k j:Nat) x y,k<j→s.spans[k]?=some x→s.spans[j]?=some y→x.1<y.1
 els:∀(j:Nat) x,s.spans[j]?=some x→x.2.1=-1∨(x.1<x.2.1∧x.2.1<i∧codeN cs x.2.1=5∧codeN cs x.1=4∧(j∈s.opn∨x.2.1<x.2.2))
 olt:∀t∈s.opn,t<s.spans.length
 oinc:s.opn.Pairwise (·<·)
 cls:∀(j:Nat) x,s.spans[j]?=some x→j∉s.opn→x.1<x.2.2∧x.2.2<i∧codeN cs x.2.2=11
 nest:∀(k j:Nat) x y,k<j→s.spans[k]?=some x→s.spans[j]?=some y→k∉s.opn→x.2.2<y.1∨(j∉s.opn∧y.2.2<x.2.2)
 clo:s.closed=true→s.opn=[]
theorem NInv.init (cs:List Int):NInv cs 0 initN:=by
 constructor<;>simp[initN]
theorem getLast_mem {α:Type} {l:List α} {t:α} (h:l.getLast?=some t):t∈l:=List.mem_of_getLast? h
theorem last_max {l:List Nat} {t:Nat} (hp:l.Pairwise (·<·)) (h:l.getLast?=some t):∀x∈l,x≤t:=by
 obtain⟨r,rfl⟩:=List.getLast?_eq_some_iff.1 h
 intro x hx
 rw[List.pairwise_append]at hp
 rcases List.mem_append.1 hx with h1|h1
 ·exact Nat.le_of_lt (hp.2.2 x h1 t (by simp))
 ·simp at h1;omega
theorem drop_last {l:List Nat} {t:Nat} (hp:l.Pairwise (·<·)) (h:l.getLast?=some t):∀x,x∈l.dropLast↔x∈l∧x≠t:=by
 obtain⟨r,rfl⟩:=List.getLast?_eq_some_iff.1 h
 intro x
 rw[List.pairwise_append]at hp
 simp only[List.dropLast_concat,List.mem_append,List.mem_singleton]
 constructor
 ·intro hx
  exact⟨.inl hx,fun e=>by subst e;have:=hp.2.2 x hx x (by simp);omega⟩
 ·rintro⟨h1|h1,h2⟩
  ·exact h1
  ·exact absurd h1 h2
theorem NInv.step {cs:List Int} {i:Nat} {s:NS} {c:Int} (h:NInv cs i s) (hc:cs[i]?=some c) (he:(stepN cs c i s).1=0):NInv cs (i+1) (stepN cs c i s).2:=by
 have hcode:codeN cs (i:Int)=c:=by
  unfold codeN
  rw[Int.toNat_natCast,List.getD_eq_getElem?_getD,hc]
  rfl
 obtain⟨hil,hcv⟩:=List.getElem?_eq_some_iff.1 hc
 have htake:((cs.take (i+1)).filter (fun c=>decide (opensC c))).length=((cs.take i).filter (fun c=>decide (opensC c))).length+(if opensC c then 1 else 0):=by
  rw[List.take_succ_eq_append_getElem hil,hcv,List.filter_append,List.length_append]
  by_cases ho:opensC c<;>simp[ho]
 by_cases hcl:s.closed=true
 ·unfold stepN at he;rw[if_pos hcl]at he;cases he
 ·by_cases ho:opensC c
  ·by_cases h64:s.opn.length=64
   ·unfold stepN at he;rw[if_neg hcl,if_pos ho,if_pos h64]at he;cases he
   ·have e:(stepN cs c i s).2={ spans:=s.spans++[((i:Int),-1,-1)],opn:=s.opn++[s.spans.length],closed:=false,deep:=max s.deep (s.opn.length+1) }:=by
     unfold stepN;rw[if_neg hcl,if_pos ho,if_neg h64]
    rw[e]
    have hsp:∀(j:Nat) x,(s.spans++[((i:Int),-1,-1)])[j]?=some x→(j<s.spans.length∧s.spans[j]?=some x)∨(j=s.spans.length∧x=((i:Int),-1,-1)):=by
     intro j x hx
     by_cases hj:j<s.spans.length
     ·rw[List.getElem?_append_left hj]at hx;exact .inl ⟨hj,hx⟩
     ·rw[List.getElem?_append_right (by omega)]at hx
      have:=(List.getElem?_eq_some_iff.1 hx).1
      simp at this
      rw[show j-s.spans.length=0 from by omega]at hx
      exact .inr ⟨by omega,by simpa using hx.symm⟩
    refine⟨?_,?_,?_,?_,?_,?_,?_,?_,?_⟩
    ·rw[htake,if_pos ho,←h.cnt];simp
    ·intro j x hx
     rcases hsp j x hx with ⟨_,hx⟩|⟨_,rfl⟩
     ·obtain⟨a,b,d⟩:=h.beg j x hx
      exact⟨a,by omega,d⟩
     ·exact⟨by simp,by simp;omega,by show opensC (codeN cs (i:Int));rw[hcode];exact ho⟩
    ·intro k j x y hkj hx hy
     rcases hsp k x hx with ⟨hk,hx⟩|⟨hk,rfl⟩
     ·rcases hsp j y hy with ⟨_,hy⟩|⟨_,rfl⟩
      ·exact h.inc k j x y hkj hx hy
      ·exact(h.beg k x hx).2.1
     ·rcases hsp j y hy with ⟨hj,hy⟩|⟨hj,rfl⟩<;>omega
    ·intro j x hx
     rcases hsp j x hx with ⟨_,hx⟩|⟨_,rfl⟩
     ·rcases h.els j x hx with a|⟨a,b,d,e,f⟩
      ·exact .inl a
      ·exact .inr ⟨a,by omega,d,e,f.elim (fun g=>.inl (List.mem_append_left _ g)) .inr⟩
     ·exact .inl rfl
    ·intro t ht
     simp only[List.length_append,List.length_cons,List.length_nil]
     rcases List.mem_append.1 ht with h1|h1
     ·have:=h.olt t h1;omega
     ·simp at h1;omega
    ·rw[List.pairwise_append]
     refine⟨h.oinc,by simp,fun a ha b hb=>?_⟩
     simp at hb
     subst hb
     exact h.olt a ha
    ·intro j x hx hj
     rcases hsp j x hx with ⟨_,hx⟩|⟨hj',rfl⟩
     ·obtain⟨a,b,d⟩:=h.cls j x hx (fun g=>hj (List.mem_append_left _ g))
      exact⟨a,by omega,d⟩
     ·exact absurd (List.mem_append_right s.opn (by simp[hj'])) hj
    ·intro k j x y hkj hx hy hk
     rcases hsp k x hx with ⟨hk',hx⟩|⟨hk',rfl⟩
     ·have hk2:k∉s.opn:=fun g=>hk (List.mem_append_left _ g)
      rcases hsp j y hy with ⟨hj',hy⟩|⟨_,rfl⟩
      ·rcases h.nest k j x y hkj hx hy hk2 with a|⟨a,b⟩
       ·exact .inl a
       ·refine .inr ⟨fun g=>?_,b⟩
        rcases List.mem_append.1 g with g|g
        ·exact a g
        ·simp at g;omega
      ·exact .inl (h.cls k x hx hk2).2.1
     ·rcases hsp j y hy with ⟨hj,hy⟩|⟨hj,rfl⟩<;>omega
    ·intro g;cases g
  ·have htk:((cs.take (i+1)).filter (fun c=>decide (opensC c))).length=((cs.take i).filter (fun c=>decide (opensC c))).length:=by rw[htake,if_neg ho];rfl
   by_cases h5:c=5
   ·cases hl:s.opn.getLast? with
    | none=>unfold stepN at he;rw[if_neg hcl,if_neg ho,if_pos h5,hl]at he;cases he
    | some t =>
     by_cases hq:codeN cs (spanN s t).1=4∧(spanN s t).2.1=-1
     ·have e:(stepN cs c i s).2={ s with spans:=s.spans.set t ((spanN s t).1,(i:Int),(spanN s t).2.2) }:=by
       unfold stepN;rw[if_neg hcl,if_neg ho,if_pos h5,hl];simp only;rw[if_pos hq]
      rw[e]
      have htm:=getLast_mem hl
      have htl:=h.olt t htm
      have hst:s.spans[t]?=some (spanN s t):=by unfold spanN;rw[List.getD_eq_getElem?_getD,List.getElem?_eq_getElem htl];rfl
      have hsp:∀(j:Nat) x,(s.spans.set t ((spanN s t).1,(i:Int),(spanN s t).2.2))[j]?=some x→(j≠t∧s.spans[j]?=some x)∨(j=t∧x=((spanN s t).1,(i:Int),(spanN s t).2.2)):=by
       intro j x hx
       by_cases hj:j=t
       ·subst hj
        rw[List.getElem?_set_self htl]at hx
        exact .inr ⟨rfl,by simpa using hx.symm⟩
       ·rw[List.getElem?_set_ne (fun e=>hj e.symm)]at hx
        exact .inl ⟨hj,hx⟩
      have hin:∀(j:Nat) x,(s.spans.set t ((spanN s t).1,(i:Int),(spanN s t).2.2))[j]?=some x→∃y,s.spans[j]?=some y∧x.1=y.1∧x.2.2=y.2.2:=by
       intro j x hx
       rcases hsp j x hx with ⟨_,hx⟩|⟨rfl,rfl⟩
       ·exact⟨x,hx,rfl,rfl⟩
       ·exact⟨_,hst,rfl,rfl⟩
      refine⟨by rw[htk,←h.cnt];simp,?_,?_,?_,by simpa using h.olt,h.oinc,?_,?_,h.clo⟩
      ·intro j x hx
       obtain⟨y,hy,e1,_⟩:=hin j x hx
       obtain⟨a,b,d⟩:=h.beg j y hy
       rw[e1]
       exact⟨a,by omega,d⟩
      ·intro k j x y hkj hx hy
       obtain⟨x',hx',e1,_⟩:=hin k x hx
       obtain⟨y',hy',e2,_⟩:=hin j y hy
       rw[e1,e2]
       exact h.inc k j x' y' hkj hx' hy'
      ·intro j x hx
       rcases hsp j x hx with ⟨_,hx⟩|⟨rfl,rfl⟩
       ·rcases h.els j x hx with a|⟨a,b,d,e,f⟩
        ·exact .inl a
        ·exact .inr ⟨a,by omega,d,e,f⟩
       ·exact .inr ⟨(h.beg _ _ hst).2.1,by simp;omega,by show codeN cs (i:Int)=5;rw[hcode];exact h5,hq.1,.inl htm⟩
      ·intro j x hx hj
       obtain⟨y,hy,e1,e2⟩:=hin j x hx
       obtain⟨a,b,d⟩:=h.cls j y hy hj
       rw[e1,e2]
       exact⟨a,by omega,d⟩
      ·intro k j x y hkj hx hy hk
       obtain⟨x',hx',e1,e3⟩:=hin k x hx
       obtain⟨y',hy',e2,e4⟩:=hin j y hy
       rw[e2,e3,e4]
       exact h.nest k j x' y' hkj hx' hy' hk
     ·unfold stepN at he;rw[if_neg hcl,if_neg ho,if_pos h5,hl]at he;simp only at he;rw[if_neg hq]at he;cases he
   ·by_cases h11:c=11
    ·cases hl:s.opn.getLast? with
     | none =>
      have e:(stepN cs c i s).2={ s with closed:=true }:=by unfold stepN;rw[if_neg hcl,if_neg ho,if_neg h5,if_pos h11,hl]
      rw[e]
      have hnil:s.opn=[]:=List.getLast?_eq_none_iff.1 hl
      refine⟨by rw[htk,←h.cnt],fun j x hx=>?_,h.inc,fun j x hx=>?_,h.olt,h.oinc,fun j x hx hj=>?_,h.nest,fun _=>hnil⟩
      ·obtain⟨a,b,d⟩:=h.beg j x hx
       exact⟨a,by omega,d⟩
      ·rcases h.els j x hx with a|⟨a,b,d,e,f⟩
       ·exact .inl a
       ·exact .inr ⟨a,by omega,d,e,f⟩
      ·obtain⟨a,b,d⟩:=h.cls j x hx hj
       exact⟨a,by omega,d⟩
     | some t =>
      have e:(stepN cs c i s).2={ s with spans:=s.spans.set t ((spanN s t).1,(spanN s t).2.1,(i:Int)),opn:=s.opn.dropLast }:=by
       unfold stepN;rw[if_neg hcl,if_neg ho,if_neg h5,if_pos h11,hl]
      rw[e]
      have htm:=getLast_mem hl
      have htl:=h.olt t htm
      have hst:s.spans[t]?=some (spanN s t):=by unfold spanN;rw[List.getD_eq_getElem?_getD,List.getElem?_eq_getElem htl];rfl
      have hmax:=last_max h.oinc hl
      have hdl:=drop_last h.oinc hl
      have hsp:∀(j:Nat) x,(s.spans.set t ((spanN s t).1,(spanN s t).2.1,(i:Int)))[j]?=some x→(j≠t∧s.spans[j]?=some x)∨(j=t∧x=((spanN s t).1,(spanN s t).2.1,(i:Int))):=by
       intro j x hx
       by_cases hj:j=t
       ·subst hj
        rw[List.getElem?_set_self htl]at hx
        exact .inr ⟨rfl,by simpa using hx.symm⟩
       ·rw[List.getElem?_set_ne (fun e=>hj e.symm)]at hx
        exact .inl ⟨hj,hx⟩
      have hin:∀(j:Nat) x,(s.spans.set t ((spanN s t).1,(spanN s t).2.1,(i:Int)))[j]?=some x→∃y,s.spans[j]?=some y∧x.1=y.1∧x.2.1=y.2.1:=by
       intro j x hx
       rcases hsp j x hx with ⟨_,hx⟩|⟨rfl,rfl⟩
       ·exact⟨x,hx,rfl,rfl⟩
       ·exact⟨_,hst,rfl,rfl⟩
      refine⟨by rw[htk,←h.cnt];simp,?_,?_,?_,?_,?_,?_,?_,fun g=>?_⟩
      ·intro j x hx
       obtain⟨y,hy,e1,_⟩:=hin j x hx
       obtain⟨a,b,d⟩:=h.beg j y hy
       rw[e1]
       exact⟨a,by omega,d⟩
      ·intro k j x y hkj hx hy
       obtain⟨x',hx',e1,_⟩:=hin k x hx
       obtain⟨y',hy',e2,_⟩:=hin j y hy
       rw[e1,e2]
       exact h.inc k j x' y' hkj hx' hy'
      ·intro j x hx
       rcases hsp j x hx with ⟨hjt,hx⟩|⟨rfl,rfl⟩
       ·rcases h.els j x hx with a|⟨a,b,d,e,f⟩
        ·exact .inl a
        ·refine .inr ⟨a,by omega,d,e,f.elim (fun g=>.inl ((hdl j).2 ⟨g,hjt⟩)) .inr⟩
       ·rcases h.els _ _ hst with a|⟨a,b,d,e,f⟩
        ·exact .inl a
        ·exact .inr ⟨a,by simp only;omega,d,e,.inr b⟩
      ·intro u hu
       rw[List.length_set]
       exact h.olt u ((hdl u).1 hu).1
      ·exact List.Pairwise.sublist (List.dropLast_sublist _) h.oinc
      ·intro j x hx hj
       rcases hsp j x hx with ⟨hjt,hx⟩|⟨rfl,rfl⟩
       ·obtain⟨a,b,d⟩:=h.cls j x hx (fun g=>hj ((hdl j).2 ⟨g,hjt⟩))
        exact⟨a,by omega,d⟩
       ·exact⟨(h.beg _ _ hst).2.1,by simp;omega,by show codeN cs (i:Int)=11;rw[hcode];exact h11⟩
      ·intro k j x y hkj hx hy hk
       rcases hsp k x hx with ⟨hkt,hx1⟩|⟨rfl,rfl⟩
       ·have hk2:k∉s.opn:=fun g=>hk ((hdl k).2 ⟨g,hkt⟩)
        rcases hsp j y hy with ⟨hjt,hy⟩|⟨rfl,rfl⟩
        ·rcases h.nest k j x y hkj hx1 hy hk2 with a|⟨a,b⟩
         ·exact .inl a
         ·exact .inr ⟨fun g=>a ((hdl j).1 g).1,b⟩
        ·rcases h.nest k _ x _ hkj hx1 hst hk2 with a|⟨a,b⟩
         ·exact .inl a
         ·exact absurd htm a
       ·rcases hsp j y hy with ⟨hjt,hy⟩|⟨rfl,rfl⟩
        ·have hjo:j∉s.opn:=fun g=>by have:=hmax j g;omega
         exact .inr ⟨fun g=>hjo ((hdl j).1 g).1,(h.cls j y hy hjo).2.1⟩
        ·omega
      ·have:=h.clo g
       rw[this]at hl
       cases hl
    ·have e:(stepN cs c i s).2=s:=by unfold stepN;rw[if_neg hcl,if_neg ho,if_neg h5,if_neg h11]
     rw[e]
     refine⟨by rw[htk,←h.cnt],fun j x hx=>?_,h.inc,fun j x hx=>?_,h.olt,h.oinc,fun j x hx hj=>?_,h.nest,h.clo⟩
     ·obtain⟨a,b,d⟩:=h.beg j x hx
      exact⟨a,by omega,d⟩
     ·rcases h.els j x hx with a|⟨a,b,d,e,f⟩
      ·exact .inl a
      ·exact .inr ⟨a,by omega,d,e,f⟩
     ·obtain⟨a,b,d⟩:=h.cls j x hx hj
      exact⟨a,by omega,d⟩
theorem goN_inv (cs:List Int):∀(r:List Int) (i:Nat) (s:NS),cs.drop i=r→NInv cs i s→(goN cs r i s).2.1=0→NInv cs cs.length (goN cs r i s).2.2∧(goN cs r i s).2.2.closed=true:=by
 intro r
 induction r with
 | nil =>
  intro i s hd h he
  have hl:cs.length≤i:=by
   have:=congrArg List.length hd
   simp at this
   omega
  unfold goN at he ⊢
  by_cases hc:s.closed=true
  ·rw[if_pos hc]
   refine⟨?_,hc⟩
   simp only
   have hcl:∀x,codeN cs x≠0→0≤x→x<cs.length:=by
    intro x hx h0
    apply Decidable.byContradiction
    intro hn
    apply hx
    unfold codeN
    rw[List.getD_eq_getElem?_getD,List.getElem?_eq_none (by omega)]
    rfl
   refine⟨by rw[h.cnt,List.take_of_length_le hl,List.take_of_length_le (Nat.le_refl _)],fun j x hx=>?_,h.inc,fun j x hx=>?_,h.olt,h.oinc,fun j x hx hj=>?_,h.nest,h.clo⟩
   ·obtain⟨a,b,d⟩:=h.beg j x hx
    refine⟨a,hcl _ (fun e=>?_) a,d⟩
    rw[e]at d
    unfold opensC at d
    omega
   ·rcases h.els j x hx with a|⟨a,b,d,e,f⟩
    ·exact .inl a
    ·refine .inr ⟨a,hcl _ (fun g=>by omega) ?_,d,e,f⟩
     have:=(h.beg j x hx).1
     omega
   ·obtain⟨a,b,d⟩:=h.cls j x hx hj
    refine⟨a,hcl _ (fun g=>by omega) ?_,d⟩
    have:=(h.beg j x hx).1
    omega
  ·rw[if_neg hc]at he
   cases he
 | cons c r ih =>
  intro i s hd h he
  have hc:cs[i]?=some c:=by
   have:=congrArg (·[0]?) hd
   simpa using this
  unfold goN at he ⊢
  by_cases hz:(stepN cs c i s).1≠0
  ·rw[if_pos hz]at he
   exact absurd he hz
  ·rw[if_neg hz]at he ⊢
   refine ih (i+1) _ ?_ (h.step hc (by omega)) he
   rw[←List.drop_drop,hd]
   rfl
end Go.Proofs.YtomppgohoplemaaGreat
namespace Go.Proofs.YtomppgohoplemaaGreat
def goP (cs:List Int) (i:Nat) (s:NS):Nat×Nat:=((goN cs (cs.drop i) i s).1,(goN cs (cs.drop i) i s).2.1)
structure Kept (s s':NS):Prop where
 opn:s'.opn=s.opn
 closed:s'.closed=false
 len:s.spans.length≤s'.spans.length
 sp:∀t,t<s.spans.length→spanN s' t=spanN s t
theorem Kept.refl {s:NS} (h:s.closed=false):Kept s s:=⟨rfl,h,Nat.le_refl _,fun _ _=>rfl⟩
theorem Kept.trans {a b c:NS} (h:Kept a b) (k:Kept b c):Kept a c:=⟨k.opn.trans h.opn,k.closed,Nat.le_trans h.len k.len,fun t ht=>(k.sp t (Nat.lt_of_lt_of_le ht h.len)).trans (h.sp t ht)⟩
end Go.Proofs.YtomppgohoplemaaGreat
namespace Go.Proofs.YtomppgohoplemaaGreat
def cntN (n:Nat):Nat:=(n+6)/7
theorem and127 (x:Nat):x &&& 127=x%128:=Nat.and_two_pow_sub_one_eq_mod x 7
def putF:Nat→Nat→List UInt8
 | 0,n=>[UInt8.ofNat n]
 | k+1,n=>if n<128 then [UInt8.ofNat n]else UInt8.ofNat (n%128+128)::putF k (n/128)
def putN (n:Nat):List UInt8:=putF 9 n
theorem putF_more:∀(k n:Nat),n<128^(k+1)→putF (k+1) n=putF k n:=by
 intro k
 induction k with
 | zero=>intro n h;simp only[putF];rw[if_pos (by simpa using h)]
 | succ k ih =>
  intro n h
  by_cases h1:n<128
  ·rw[putF,if_pos h1,putF,if_pos h1]
  ·rw[putF,if_neg h1,ih (n/128) (by rw[Nat.div_lt_iff_lt_mul (by omega)];rw[Nat.pow_succ]at h;exact h)]
   rw[putF,if_neg h1]
theorem putN_small (n:Nat) (h:n<128):putN n=[UInt8.ofNat n]:=by
 unfold putN;rw[putF,if_pos h]
theorem putN_step (n:Nat) (h:128≤n) (h2:n<2^64):putN n=UInt8.ofNat (n%128+128)::putN (n/128):=by
 unfold putN
 rw[putF,if_neg (by omega),putF_more 8]
 omega
theorem putF_length:∀(k n:Nat),1≤(putF k n).length∧(putF k n).length≤k+1:=by
 intro k
 induction k with
 | zero=>intro n;simp[putF]
 | succ k ih =>
  intro n
  rw[putF]
  split
  ·simp
  ·have:=ih (n/128);simp;omega
def magN (n:Int):Nat:=if n<0 then (-n-1).toNat else n.toNat
def sizeS (n:Int):Nat:=(Lib.bitLen (magN n)+7)/7
def putS:Nat→Int→List UInt8
 | 0,n=>[UInt8.ofNat (n%128).toNat]
 | k+1,n=>UInt8.ofNat ((n%128).toNat+128)::putS k (n/128)
def putSN (n:Int):List UInt8:=putS (sizeS n-1) n
theorem putS_length:∀(k:Nat) (n:Int),(putS k n).length=k+1:=by
 intro k
 induction k with
 | zero=>intro n;rfl
 | succ k ih=>intro n;rw[putS,List.length_cons,ih]
theorem magN_lt (n:Int) (h1:-9223372036854775808≤n) (h2:n≤9223372036854775807):magN n<2^63:=by
 unfold magN;simp only[Nat.reducePow];split<;>omega
theorem sizeS_bd (n:Int) (h1:-9223372036854775808≤n) (h2:n≤9223372036854775807):1≤sizeS n∧sizeS n≤10:=by
 have:=Lib.bitLen_le (magN n) 63 (by omega) (magN_lt n h1 h2)
 unfold sizeS;omega
theorem putN_length (n:Nat):1≤(putN n).length∧(putN n).length≤10:=putF_length 9 n
end Go.Proofs.YtomppgohoplemaaGreat
namespace Go.Proofs.YtomppgohoplemaaGreat
open Go.RowKit
theorem fold_mid:∀(xs:List Value) (j:Nat) (off:Nat) (pre mid post:List Value),mid.length=xs.length→pre.length=off+j →
  (xs.zipIdx j).foldl (fun (cs:Array Value) (x:Value×Nat)=>cs.setIfInBounds (off+x.2) x.1) (pre++mid++post).toArray=(pre++xs++post).toArray:=by
 intro xs
 induction xs with
 | nil=>intro j off pre mid post hm hp;have:mid=[]:=List.eq_nil_of_length_eq_zero (by simpa using hm);subst this;rfl
 | cons x r ih =>
  intro j off pre mid post hm hp
  cases mid with
  | nil=>simp at hm
  | cons m ms =>
   rw[List.zipIdx_cons,List.foldl_cons]
   have h1:((pre++(m::ms)++post).toArray.setIfInBounds (off+j) x)=((pre++[x])++ms++post).toArray:=by
    rw[List.setIfInBounds_toArray]
    congr 1
    rw[List.append_assoc,List.set_append_right _ _ (by omega),hp]
    simp
   simp only
   rw[h1,ih (j+1) off (pre++[x]) ms post (by simpa using hm) (by simp;omega)]
   simp
theorem fill_rows {α:Type} (dec:α→List Value) (size:Nat) (hd:∀a,(dec a).length=size):∀(rs:List α) (k:Nat) (pre post:List Value),pre.length=k*size→post.length=rs.length*size →
  Instr.fill (fun i=>some (i*size,size)) (pre++post).toArray ((rs.zipIdx k).map fun x=>(x.2,Value.agg (dec x.1).toArray))=some (pre++rs.flatMap dec).toArray:=by
 intro rs
 induction rs with
 | nil=>intro k pre post hp hq;have:post=[]:=List.eq_nil_of_length_eq_zero (by simpa using hq);subst this;simp[Instr.fill]
 | cons r t ih =>
  intro k pre post hp hq
  have hl:post.length=size+t.length*size:=by rw[hq,List.length_cons,Nat.succ_mul,Nat.add_comm]
  have hpost:post=post.take size++post.drop size:=(List.take_append_drop _ _).symm
  have hsz:(Value.agg (dec r).toArray).cells.size=size:=by show (dec r).toArray.size=size;simp[hd]
  rw[List.zipIdx_cons,List.map_cons,Instr.fill]
  simp only
  rw[if_neg (by simp[hsz,hp,hl])]
  have hf:((Value.agg (dec r).toArray).cells.zipIdx.foldl (fun (cs:Array Value) (x:Value×Nat)=>cs.setIfInBounds (k*size+x.2) x.1) (pre++post).toArray)=((pre++dec r)++post.drop size).toArray:=by
   show ((dec r).toArray.zipIdx.foldl _ _)=_
   rw[←Array.foldl_toList,Array.toList_zipIdx]
   conv=>lhs;arg 2;rw[hpost,←List.append_assoc]
   exact fold_mid (dec r) 0 (k*size) pre (post.take size) (post.drop size) (by rw[List.length_take,hd];omega) (by omega)
  rw[hf,ih (k+1) (pre++dec r) (post.drop size) (by rw[List.length_append,hd,hp,Nat.succ_mul]) (by rw[List.length_drop];omega)]
  simp
theorem all_one {α:Type} {D:α→List Value} (h:∀a,∀u∈D a,u.oneCell'=true) (rs:List α):(rs.flatMap D).toArray.all (·.oneCell')=true:=by
 rw[Array.all_eq_true_iff_forall_mem]
 intro u hu
 obtain⟨a,_,ha⟩:=List.mem_flatMap.1 (by simpa using hu)
 exact h a u ha
def IsTab (P:Program) (t e:TypeId) (n size:Nat):Prop :=
 P.underlying t=some (.array n e)∧(P.info? t).map (fun i=>(i.zero.map (fun z=>z.cells.size),i.size))=some (some (n*size),n*size)∧(P.info? e).map (fun i=>i.size)=some size∧∀w,(isAgg e).run P w=.ok true w
theorem built_rows {P:Program} {α:Type} {t e:TypeId} {n size:Nat} (hT:IsTab P t e n size) (dec:α→List Value) (hd:∀a,(dec a).length=size) (rs:List α) (hn:rs.length=n) :
  P.built t (rs.zipIdx.map fun x=>(x.2,Value.agg (dec x.1).toArray))=some (rs.flatMap dec).toArray:=by
 obtain⟨hu,hi,he,_⟩:=hT
 cases h1:P.info? t with
 | none=>rw[h1]at hi;cases hi
 | some i =>
  cases h2:P.info? e with
  | none=>rw[h2]at he;cases he
  | some ie =>
   rw[h1]at hi
   rw[h2]at he
   simp only[Option.map_some,Option.some.injEq,Prod.mk.injEq]at hi he
   cases hz:i.zero with
   | none=>rw[hz]at hi;simp at hi
   | some z =>
    rw[hz]at hi
    simp only[Option.map_some,Option.some.injEq]at hi
    have:=fill_rows dec size hd rs 0 [] z.cells.toList (by simp) (by simp[hi.1,hn])
    simp only[List.nil_append,Array.toArray_toList]at this
    simp only[Program.built,h1,hu,hz,h2,he]
    exact this
theorem wpList_build_rows {P:Program} {ops:Array Oper} {rest:List Oper} {o:Oper} {a:Act} {w:World} {Q:Exit→Act→World→Prop} (hg:o.guard=none) (t:TypeId) (parts:Array (Nat×Operand)) (ho:o.op=.build t parts)
  {α:Type} {e:TypeId} {n size:Nat} (hT:IsTab P t e n size) (dec:α→List Value) (hd:∀a,(dec a).length=size) (rs:List α) (hn:rs.length=n)
  (hp:parts.toList.map (fun x=>(x.1,a.eval x.2))=rs.zipIdx.map fun x=>(x.2,Value.agg (dec x.1).toArray))
  (h:wpList P ops Q rest (a.put o.dst (.agg (rs.flatMap dec).toArray)) w):wpList P ops Q (o::rest) a w:=by
 have hb:P.built t (parts.map fun (i,x)=>(i,a.eval x)).toList=some (rs.flatMap dec).toArray:=by
  rw[Array.toList_map]
  exact(congrArg (P.built t) hp).trans (built_rows hT dec hd rs hn)
 refine wpList_build hg t parts ho (by rw[hb];rfl) ?_
 rw[hb]
 exact h
theorem flatMap_at {α:Type} {dec:α→List Value} {size:Nat} (hd:∀a,(dec a).length=size):∀(ys:List α) (t j:Nat) (a:α),ys[t]?=some a→j<size→(ys.flatMap dec)[t*size+j]?=(dec a)[j]?:=by
 intro ys
 induction ys with
 | nil=>intro t j a h;simp at h
 | cons c r ih =>
  intro t j a h hj
  rw[List.flatMap_cons]
  cases t with
  | zero =>
   have:c=a:=by simpa using h
   subst this
   rw[Nat.zero_mul,Nat.zero_add,List.getElem?_append_left (by rw[hd];exact hj)]
  | succ t =>
   rw[List.getElem?_append_right (by rw[hd,Nat.succ_mul];omega),hd,show (t+1)*size+j-size=t*size+j from by rw[Nat.succ_mul];omega]
   exact ih t j a (by simpa using h) hj
theorem run_index_row {P:Program} {α:Type} {t e:TypeId} {n size:Nat} (hT:IsTab P t e n size) (dec:α→List Value) (hd:∀a,(dec a).length=size) (rs:List α) (hn:rs.length=n) (k:Nat) (r:α) (hk:rs[k]?=some r) (w:World) :
  (Instr.index t (.agg (rs.flatMap dec).toArray) (.int .i64 k)).run P w=.ok (.agg (dec r).toArray) w:=by
 obtain⟨hu,hi,he,ha⟩:=hT
 have hkn:k<n:=by have:=(List.getElem?_eq_some_iff.1 hk).1;omega
 cases h2:P.info? e with
 | none=>rw[h2]at he;cases he
 | some ie =>
  rw[h2]at he
  simp only[Option.map_some,Option.some.injEq]at he
  have hx:List.take size (List.drop (k*size) (List.flatMap dec rs))=dec r:=by
   apply List.ext_getElem?
   intro j
   rw[List.getElem?_take]
   by_cases hj:j<size
   ·rw[if_pos hj,List.getElem?_drop,flatMap_at hd rs k j r hk hj]
   ·rw[if_neg hj,List.getElem?_eq_none (by rw[hd];omega)]
  simp[Instr.index,run_underlying hu,asIntOf,hkn,part,ha,sizeOf,typeInfo,h2,he,hx,go_sem]
theorem run_index_one {P:Program} {t e:TypeId} {n:Nat} (hu:P.underlying t=some (.array n e)) (hs:(P.info? e).map (fun i=>i.size)=some 1) (ha:∀w,(isAgg e).run P w=.ok false w) (xs:List Value) (hn:xs.length=n) (k:Nat) (v:Value) (hk:xs[k]?=some v) (w:World) :
  (Instr.index t (.agg xs.toArray) (.int .i64 k)).run P w=.ok v w:=by
 have hkn:k<n:=by have:=(List.getElem?_eq_some_iff.1 hk).1;omega
 cases h2:P.info? e with
 | none=>rw[h2]at hs;cases hs
 | some ie =>
  rw[h2]at hs
  simp only[Option.map_some,Option.some.injEq]at hs
  simp[Instr.index,run_underlying hu,asIntOf,hkn,part,ha,sizeOf,typeInfo,h2,hs,hk,go_sem]
theorem IsTab.zero {P:Program} {t e:TypeId} {n size:Nat} (hT:IsTab P t e n size):∃z,(∀w,(zeroValue t).run P w=.ok z w)∧z.cells.size=n*size∧(P.info? t).map (·.size)=some (n*size):=by
 obtain⟨hu,hi,he,ha⟩:=hT
 cases h1:P.info? t with
 | none=>rw[h1]at hi;cases hi
 | some i =>
  rw[h1]at hi
  simp only[Option.map_some,Option.some.injEq,Prod.mk.injEq]at hi
  cases hz:i.zero with
  | none=>rw[hz]at hi;simp at hi
  | some z =>
   rw[hz]at hi
   simp only[Option.map_some,Option.some.injEq]at hi
   exact⟨z,fun w=>by simp[zeroValue,typeInfo,h1,hz],hi.1,by simp[hi.2]⟩
end Go.Proofs.YtomppgohoplemaaGreat
