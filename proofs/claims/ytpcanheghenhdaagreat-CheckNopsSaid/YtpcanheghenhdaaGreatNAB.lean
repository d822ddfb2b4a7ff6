set_option linter.unusedVariables false
namespace Go.Proofs.YtpcanheghenhdaaGreat
structure NS where
 spans:List (Int×Int×Int)
 opn:List Nat
 closed:Bool
 deep:Nat
def opensC (c:Int):Prop:=c=2∨c=3∨c=4
instance (c:Int):Decidable (opensC c):=by unfold opensC;infer_instance
def spanN (s:NS) (t:Nat):Int×Int×Int:=s.spans.getD t (0,0,0)
def codeN (cs:List Int) (i:Int):Int:=cs.getD i.toNat 0
def stepN (cs:List Int) (c:Int) (i:Nat) (s:NS):Nat×NS :=
 if s.closed then (4,s)
 else if opensC c then
  if s.opn.length=64 then (15,s)
  else (0,{ spans:=s.spans++[((i:Int),-1,-1)],opn:=s.opn++[s.spans.length],closed:=false,deep:=max s.deep (s.opn.length+1) })
 else if c=5 then
  match s.opn.getLast? with
  | none=>(4,s)
  | some t=>if codeN cs (spanN s t).1=4∧(spanN s t).2.1=-1 then (0,{ s with spans:=s.spans.set t ((spanN s t).1,(i:Int),(spanN s t).2.2) })else (4,s)
 else if c=11 then
  match s.opn.getLast? with
  | none=>(0,{ s with closed:=true })
  | some t=>(0,{ s with spans:=s.spans.set t ((spanN s t).1,(spanN s t).2.1,(i:Int)),opn:=s.opn.dropLast })
 else (0,s)
def initN:NS:=⟨[],[],false,0⟩
def goN (cs:List Int):List Int→Nat→NS→Nat×Nat×NS
 | [],i,s=>if s.closed then (0,0,s)else (i,4,s)
 | c::r,i,s=>if (stepN cs c i s).1≠0 then (i,(stepN cs c i s).1,(stepN cs c i s).2)else goN cs r (i+1) (stepN cs c i s).2
structure NInv (cs:List Int) (i:Nat) (s:NS):Prop where
 cnt:s.spans.length=((cs.take i).filter (fun c=>decide (opensC c))).length
 beg:∀(j:Nat) x,s.spans[j]?=some x→0≤x.1∧x.1<i∧opensC (codeN cs x.1)
 inc:∀(k j:Nat) x y,k<j→s.spans[k]?=some x→s.spans[j]?=some y→x.1<y.1
 els:∀(j:Nat) x,s.spans[j]?=some x→x.2.1=-1∨(x.1<x.2.1∧x.2.1<i∧codeN cs x.2.1=5∧codeN cs x.1=4∧(j∈s.opn∨x.2.1<x.2.2))
 olt:∀t∈s.opn,t<s.spans.length
 oinc:s.opn.Pairwise (·<·)
 cls:∀(j:Nat) x,s.spans[j]?=some x→j∉s.opn→x.1<x.2.2∧x.2.2<i∧codeN cs x.2.2=11
 nest:∀(k j:Nat) x y,k<j→s.spans[k]?=some x→s.spans[j]?=some y→k∉s.opn→x.2.2<y.1∨(j∉s.opn∧y.2.2<x.2.2)
 clo:s.closed=true→s.opn=[]
theorem NInv.init (cs:List Int):NInv cs 0 initN:=by
 constructor<;>simp[initN]
theorem getLast_mem {α:Type} {l:List α} {t:α} (h:l.getLast?=some t):t∈l:=List.mem_of_getLast? h
theorem last_max {l:List Nat} {t:Nat} (hp:l.Pairwise (·<·)) (h:l.getLast?=some t):∀x∈l,x≤t:=by
 obtain⟨r,rfl⟩:=List.getLast?_eq_some_iff.1 h
 intro x hx
 rw[List.pairwise_append]at hp
 rcases List.mem_append.1 hx with h1|h1
 ·exact Nat.le_of_lt (hp.2.2 x h1 t (by simp))
 ·simp at h1;omega
theorem drop_last {l:List Nat} {t:Nat} (hp:l.Pairwise (·<·)) (h:l.getLast?=some t):∀x,x∈l.dropLast↔x∈l∧x≠t:=by
 obtain⟨r,rfl⟩:=List.getLast?_eq_some_iff.1 h
 intro x
 rw[List.pairwise_append]at hp
 simp only[List.dropLast_concat,List.mem_append,List.mem_singleton]
 constructor
 ·intro hx
  exact⟨.inl hx,fun e=>by subst e;have:=hp.2.2 x hx x (by simp);omega⟩
 ·rintro⟨h1|h1,h2⟩
  ·exact h1
  ·exact absurd h1 h2
theorem NInv.step {cs:List Int} {i:Nat} {s:NS} {c:Int} (h:NInv cs i s) (hc:cs[i]?=some c) (he:(stepN cs c i s).1=0):NInv cs (i+1) (stepN cs c i s).2:=by
 have hcode:codeN cs (i:Int)=c:=by
  unfold codeN
  rw[Int.toNat_natCast,List.getD_eq_getElem?_getD,hc]
  rfl
 obtain⟨hil,hcv⟩:=List.getElem?_eq_some_iff.1 hc
 have htake:((cs.take (i+1)).filter (fun c=>decide (opensC c))).length=((cs.take i).filter (fun c=>decide (opensC c))).length+(if opensC c then 1 else 0):=by
  rw[List.take_succ_eq_append_getElem hil,hcv,List.filter_append,List.length_append]
  by_cases ho:opensC c<;>simp[ho]
 by_cases hcl:s.closed=true
 ·unfold stepN at he;rw[if_pos hcl]at he;cases he
 ·by_cases ho:opensC c
  ·by_cases h64:s.opn.length=64
   ·unfold stepN at he;rw[if_neg hcl,if_pos ho,if_pos h64]at he;cases he
   ·have e:(stepN cs c i s).2={ spans:=s.spans++[((i:Int),-1,-1)],opn:=s.opn++[s.spans.length],closed:=false,deep:=max s.deep (s.opn.length+1) }:=by
     unfold stepN;rw[if_neg hcl,if_pos ho,if_neg h64]
    rw[e]
    have hsp:∀(j:Nat) x,(s.spans++[((i:Int),-1,-1)])[j]?=some x→(j<s.spans.length∧s.spans[j]?=some x)∨(j=s.spans.length∧x=((i:Int),-1,-1)):=by
     intro j x hx
     by_cases hj:j<s.spans.length
     ·rw[List.getElem?_append_left hj]at hx;exact .inl ⟨hj,hx⟩
     ·rw[List.getElem?_append_right (by omega)]at hx
      have:=(List.getElem?_eq_some_iff.1 hx).1
      simp at this
      rw[show j-s.spans.length=0 from by omega]at hx
      exact .inr ⟨by omega,by simpa using hx.symm⟩
    refine⟨?_,?_,?_,?_,?_,?_,?_,?_,?_⟩
    ·rw[htake,if_pos ho,←h.cnt];simp
    ·intro j x hx
     rcases hsp j x hx with ⟨_,hx⟩|⟨_,rfl⟩
     ·obtain⟨a,b,d⟩:=h.beg j x hx
      exact⟨a,by omega,d⟩
     ·exact⟨by simp,by simp;omega,by show opensC (codeN cs (i:Int));rw[hcode];exact ho⟩
    ·intro k j x y hkj hx hy
     rcases hsp k x hx with ⟨hk,hx⟩|⟨hk,rfl⟩
     ·rcases hsp j y hy with ⟨_,hy⟩|⟨_,rfl⟩
      ·exact h.inc k j x y hkj hx hy
      ·exact(h.beg k x hx).2.1
     ·rcases hsp j y hy with ⟨hj,hy⟩|⟨hj,rfl⟩<;>omega
    ·intro j x hx
     rcases hsp j x hx with ⟨_,hx⟩|⟨_,rfl⟩
     ·rcases h.els j x hx with a|⟨a,b,d,e,f⟩
      ·exact .inl a
      ·exact .inr ⟨a,by omega,d,e,f.elim (fun g=>.inl (List.mem_append_left _ g)) .inr⟩
     ·exact .inl rfl
    ·intro t ht
     simp only[List.length_append,List.length_cons,List.length_nil]
     rcases List.mem_append.1 ht with h1|h1
     ·have:=h.olt t h1;omega
     ·simp at h1;omega
    ·rw[List.pairwise_append]
     refine⟨h.oinc,by simp,fun a ha b hb=>?_⟩
     simp at hb
     subst hb
     exact h.olt a ha
    ·intro j x hx hj
     rcases hsp j x hx with ⟨_,hx⟩|⟨hj',rfl⟩
     ·obtain⟨a,b,d⟩:=h.cls j x hx (fun g=>hj (List.mem_append_left _ g))
      exact⟨a,by omega,d⟩
     ·exact absurd (List.mem_append_right s.opn (by simp[hj'])) hj
    ·intro k j x y hkj hx hy hk
     rcases hsp k x hx with ⟨hk',hx⟩|⟨hk',rfl⟩
     ·have hk2:k∉s.opn:=fun g=>hk (List.mem_append_left _ g)
      rcases hsp j y hy with ⟨hj',hy⟩|⟨_,rfl⟩
      ·rcases h.nest k j x y hkj hx hy hk2 with a|⟨a,b⟩
       ·exact .inl a
       ·refine .inr ⟨fun g=>?_,b⟩
        rcases List.mem_append.1 g with g|g
        ·exact a g
        ·simp at g;omega
      ·exact .inl (h.cls k x hx hk2).2.1
     ·rcases hsp j y hy with ⟨hj,hy⟩|⟨hj,rfl⟩<;>omega
    ·intro g;cases g
  ·have htk:((cs.take (i+1)).filter (fun c=>decide (opensC c))).length=((cs.take i).filter (fun c=>decide (opensC c))).length:=by rw[htake,if_neg ho];rfl
   by_cases h5:c=5
   ·cases hl:s.opn.getLast? with
    | none=>unfold stepN at he;rw[if_neg hcl,if_neg ho,if_pos h5,hl]at he;cases he
    | some t =>
     by_cases hq:codeN cs (spanN s t).1=4∧(spanN s t).2.1=-1
     ·have e:(stepN cs c i s).2={ s with spans:=s.spans.set t ((spanN s t).1,(i:Int),(spanN s t).2.2) }:=by
       unfold stepN;rw[if_neg hcl,if_neg ho,if_pos h5,hl];simp only;rw[if_pos hq]
      rw[e]
      have htm:=getLast_mem hl
      have htl:=h.olt t htm
      have hst:s.spans[t]?=some (spanN s t):=by unfold spanN;rw[List.getD_eq_getElem?_getD,List.getElem?_eq_getElem htl];rfl
      have hsp:∀(j:Nat) x,(s.spans.set t ((spanN s t).1,(i:Int),(spanN s t).2.2))[j]?=some x→(j≠t∧s.spans[j]?=some x)∨(j=t∧x=((spanN s t).1,(i:Int),(spanN s t).2.2)):=by
       intro j x hx
       by_cases hj:j=t
       ·subst hj
        rw[List.getElem?_set_self htl]at hx
        exact .inr ⟨rfl,by simpa using hx.symm⟩
       ·rw[List.getElem?_set_ne (fun e=>hj e.symm)]at hx
        exact .inl ⟨hj,hx⟩
      have hin:∀(j:Nat) x,(s.spans.set t ((spanN s t).1,(i:Int),(spanN s t).2.2))[j]?=some x→∃y,s.spans[j]?=some y∧x.1=y.1∧x.2.2=y.2.2:=by
       intro j x hx
       rcases hsp j x hx with ⟨_,hx⟩|⟨rfl,rfl⟩
       ·exact⟨x,hx,rfl,rfl⟩
       ·exact⟨_,hst,rfl,rfl⟩
      refine⟨by rw[htk,←h.cnt];simp,?_,?_,?_,by simpa using h.olt,h.oinc,?_,?_,h.clo⟩
      ·intro j x hx
       obtain⟨y,hy,e1,_⟩:=hin j x hx
       obtain⟨a,b,d⟩:=h.beg j y hy
       rw[e1]
       exact⟨a,by omega,d⟩
      ·intro k j x y hkj hx hy
       obtain⟨x',hx',e1,_⟩:=hin k x hx
       obtain⟨y',hy',e2,_⟩:=hin j y hy
       rw[e1,e2]
       exact h.inc k j x' y' hkj hx' hy'
      ·intro j x hx
       rcases hsp j x hx with ⟨_,hx⟩|⟨rfl,rfl⟩
       ·rcases h.els j x hx with a|⟨a,b,d,e,f⟩
        ·exact .inl a
        ·exact .inr ⟨a,by omega,d,e,f⟩
       ·exact .inr ⟨(h.beg _ _ hst).2.1,by simp;omega,by show codeN cs (i:Int)=5;rw[hcode];exact h5,hq.1,.inl htm⟩
      ·intro j x hx hj
       obtain⟨y,hy,e1,e2⟩:=hin j x hx
       obtain⟨a,b,d⟩:=h.cls j y hy hj
       rw[e1,e2]
       exact⟨a,by omega,d⟩
      ·intro k j x y hkj hx hy hk
       obtain⟨x',hx',e1,e3⟩:=hin k x hx
       obtain⟨y',hy',e2,e4⟩:=hin j y hy
       rw[e2,e3,e4]
       exact h.nest k j x' y' hkj hx' hy' hk
     ·unfold stepN at he;rw[if_neg hcl,if_neg ho,if_pos h5,hl]at he;simp only at he;rw[if_neg hq]at he;cases he
   ·by_cases h11:c=11
    ·cases hl:s.opn.getLast? with
     | none =>
      have e:(stepN cs c i s).2={ s with closed:=true }:=by unfold stepN;rw[if_neg hcl,if_neg ho,if_neg h5,if_pos h11,hl]
      rw[e]
      have hnil:s.opn=[]:=List.getLast?_eq_none_iff.1 hl
      refine⟨by rw[htk,←h.cnt],fun j x hx=>?_,h.inc,fun j x hx=>?_,h.olt,h.oinc,fun j x hx hj=>?_,h.nest,fun _=>hnil⟩
      ·obtain⟨a,b,d⟩:=h.beg j x hx
       exact⟨a,by omega,d⟩
      ·rcases h.els j x hx with a|⟨a,b,d,e,f⟩
       ·exact .inl a
       ·exact .inr ⟨a,by omega,d,e,f⟩
      ·obtain⟨a,b,d⟩:=h.cls j x hx hj
       exact⟨a,by omega,d⟩
     | some t =>
      have e:(stepN cs c i s).2={ s with spans:=s.spans.set t ((spanN s t).1,(spanN s t).2.1,(i:Int)),opn:=s.opn.dropLast }:=by
       unfold stepN;rw[if_neg hcl,if_neg ho,if_neg h5,if_pos h11,hl]
      rw[e]
      have htm:=getLast_mem hl
      have htl:=h.olt t htm
      have hst:s.spans[t]?=some (spanN s t):=by unfold spanN;rw[List.getD_eq_getElem?_getD,List.getElem?_eq_getElem htl];rfl
      have hmax:=last_max h.oinc hl
      have hdl:=drop_last h.oinc hl
      have hsp:∀(j:Nat) x,(s.spans.set t ((spanN s t).1,(spanN s t).2.1,(i:Int)))[j]?=some x→(j≠t∧s.spans[j]?=some x)∨(j=t∧x=((spanN s t).1,(spanN s t).2.1,(i:Int))):=by
       intro j x hx
       by_cases hj:j=t
       ·subst hj
        rw[List.getElem?_set_self htl]at hx
        exact .inr ⟨rfl,by simpa using hx.symm⟩
       ·rw[List.getElem?_set_ne (fun e=>hj e.symm)]at hx
        exact .inl ⟨hj,hx⟩
      have hin:∀(j:Nat) x,(s.spans.set t ((spanN s t).1,(spanN s t).2.1,(i:Int)))[j]?=some x→∃y,s.spans[j]?=some y∧x.1=y.1∧x.2.1=y.2.1:=by
       intro j x hx
       rcases hsp j x hx with ⟨_,hx⟩|⟨rfl,rfl⟩
       ·exact⟨x,hx,rfl,rfl⟩
       ·exact⟨_,hst,rfl,rfl⟩
      refine⟨by rw[htk,←h.cnt];simp,?_,?_,?_,?_,?_,?_,?_,fun g=>?_⟩
      ·intro j x hx
       obtain⟨y,hy,e1,_⟩:=hin j x hx
       obtain⟨a,b,d⟩:=h.beg j y hy
       rw[e1]
       exact⟨a,by omega,d⟩
      ·intro k j x y hkj hx hy
       obtain⟨x',hx',e1,_⟩:=hin k x hx
       obtain⟨y',hy',e2,_⟩:=hin j y hy
       rw[e1,e2]
       exact h.inc k j x' y' hkj hx' hy'
      ·intro j x hx
       rcases hsp j x hx with ⟨hjt,hx⟩|⟨rfl,rfl⟩
       ·rcases h.els j x hx with a|⟨a,b,d,e,f⟩
        ·exact .inl a
        ·refine .inr ⟨a,by omega,d,e,f.elim (fun g=>.inl ((hdl j).2 ⟨g,hjt⟩)) .inr⟩
       ·rcases h.els _ _ hst with a|⟨a,b,d,e,f⟩
        ·exact .inl a
        ·exact .inr ⟨a,by simp only;omega,d,e,.inr b⟩
      ·intro u hu
       rw[List.length_set]
       exact h.olt u ((hdl u).1 hu).1
      ·exact List.Pairwise.sublist (List.dropLast_sublist _) h.oinc
      ·intro j x hx hj
       rcases hsp j x hx with ⟨hjt,hx⟩|⟨rfl,rfl⟩
       ·obtain⟨a,b,d⟩:=h.cls j x hx (fun g=>hj ((hdl j).2 ⟨g,hjt⟩))
        exact⟨a,by omega,d⟩
       ·exact⟨(h.beg _ _ hst).2.1,by simp;omega,by show codeN cs (i:Int)=11;rw[hcode];exact h11⟩
      ·intro k j x y hkj hx hy hk
       rcases hsp k x hx with ⟨hkt,hx1⟩|⟨rfl,rfl⟩
       ·have hk2:k∉s.opn:=fun g=>hk ((hdl k).2 ⟨g,hkt⟩)
        rcases hsp j y hy with ⟨hjt,hy⟩|⟨rfl,rfl⟩
        ·rcases h.nest k j x y hkj hx1 hy hk2 with a|⟨a,b⟩
         ·exact .inl a
         ·exact .inr ⟨fun g=>a ((hdl j).1 g).1,b⟩
        ·rcases h.nest k _ x _ hkj hx1 hst hk2 with a|⟨a,b⟩
         ·exact .inl a
         ·exact absurd htm a
       ·rcases hsp j y hy with ⟨hjt,hy⟩|⟨rfl,rfl⟩
        ·have hjo:j∉s.opn:=fun g=>by have:=hmax j g;omega
         exact .inr ⟨fun g=>hjo ((hdl j).1 g).1,(h.cls j y hy hjo).2.1⟩
        ·omega
      ·have:=h.clo g
       rw[this]at hl
       cases hl
    ·have e:(stepN cs c i s).2=s:=by unfold stepN;rw[if_neg hcl,if_neg ho,if_neg h5,if_neg h11]
     rw[e]
     refine⟨by rw[htk,←h.cnt],fun j x hx=>?_,h.inc,fun j x hx=>?_,h.olt,h.oinc,fun j x hx hj=>?_,h.nest,h.clo⟩
     ·obtain⟨a,b,d⟩:=h.beg j x hx
      exact⟨a,by omega,d⟩
     ·rcases h.els j x hx with a|⟨a,b,d,e,f⟩
      ·exact .inl a
      ·exact .inr ⟨a,by omega,d,e,f⟩
     ·obtain⟨a,b,d⟩:=h.cls j x hx hj
      exact⟨a,by omega,d⟩
end Go.Proofs.YtpcanheghenhdaaGreat
namespace Go.Proofs.YtpcanheghenhdaaGreat
def blockP (cs:List Int):Nat→Nat→Nat→Nat×Nat
 | 0,at_,_=>(at_,0)
 | f+1,at_,deep =>
  match cs[at_]? with
  | none=>(at_,0)
  | some c =>
   if c=11∨c=5 then (at_,0)
   else if c<2∨4<c then blockP cs f (at_+1) deep
   else if deep=64 then (at_,15)
   else
    let q:=blockP cs f (at_+1) (deep+1)
    if q.2=0∧cs[q.1]?=some 5 then
     if c≠4 then (q.1,4)
     else
      let p:=blockP cs f (q.1+1) (deep+1)
      if p.2=0∧cs[p.1]?=some 5 then (p.1,4)
      else if p.2≠0 then p
      else if p.1=cs.length then (p.1,4)else blockP cs f (p.1+1) deep
    else if q.2≠0 then q
    else if q.1=cs.length then (q.1,4)else blockP cs f (q.1+1) deep
theorem blockP_ge (cs:List Int):∀(f at_ deep:Nat),at_≤(blockP cs f at_ deep).1:=by
 intro f
 induction f with
 | zero=>intro at_ deep;exact Nat.le_refl _
 | succ f ih =>
  intro at_ deep
  rw[blockP]
  have h1:=ih (at_+1) (deep+1)
  have h2:=ih (at_+1) deep
  have h3:=ih ((blockP cs f (at_+1) (deep+1)).1+1) (deep+1)
  have h4:=ih ((blockP cs f (at_+1) (deep+1)).1+1) deep
  have h5:=ih ((blockP cs f ((blockP cs f (at_+1) (deep+1)).1+1) (deep+1)).1+1) deep
  split
  ·exact Nat.le_refl _
  ·split
   ·exact Nat.le_refl _
   ·split
    ·omega
    ·split
     ·exact Nat.le_refl _
     ·simp only
      split
      ·split
       ·show _≤(blockP cs f (at_+1) (deep+1)).1;omega
       ·split
        ·show _≤(blockP cs f ((blockP cs f (at_+1) (deep+1)).1+1) (deep+1)).1;omega
        ·split
         ·omega
         ·split
          ·show _≤(blockP cs f ((blockP cs f (at_+1) (deep+1)).1+1) (deep+1)).1;omega
          ·omega
      ·split
       ·omega
       ·split
        ·show _≤(blockP cs f (at_+1) (deep+1)).1;omega
        ·omega
theorem blockP_le (cs:List Int):∀(f at_ deep:Nat),at_≤cs.length→(blockP cs f at_ deep).1≤cs.length:=by
 intro f
 induction f with
 | zero=>intro at_ deep h;exact h
 | succ f ih =>
  intro at_ deep h
  rw[blockP]
  split
  ·exact h
  ·rename_i c hc
   have hlt:at_<cs.length:=(List.getElem?_eq_some_iff.1 hc).1
   have h1:=ih (at_+1) (deep+1) (by omega)
   have h2:=ih (at_+1) deep (by omega)
   split
   ·exact h
   ·split
    ·omega
    ·split
     ·exact h
     ·simp only
      split
      ·rename_i hq
       have hlt2:(blockP cs f (at_+1) (deep+1)).1<cs.length:=(List.getElem?_eq_some_iff.1 hq.2).1
       have h3:=ih ((blockP cs f (at_+1) (deep+1)).1+1) (deep+1) (by omega)
       split
       ·show (blockP cs f (at_+1) (deep+1)).1≤_;omega
       ·split
        ·show (blockP cs f ((blockP cs f (at_+1) (deep+1)).1+1) (deep+1)).1≤_;omega
        ·split
         ·omega
         ·split
          ·show (blockP cs f ((blockP cs f (at_+1) (deep+1)).1+1) (deep+1)).1≤_;omega
          ·exact ih _ _ (by omega)
      ·split
       ·omega
       ·split
        ·show (blockP cs f (at_+1) (deep+1)).1≤_;omega
        ·exact ih _ _ (by omega)
def goP (cs:List Int) (i:Nat) (s:NS):Nat×Nat:=((goN cs (cs.drop i) i s).1,(goN cs (cs.drop i) i s).2.1)
theorem goP_step {cs:List Int} {i:Nat} {c:Int} (s:NS) (h:cs[i]?=some c):goP cs i s=if (stepN cs c i s).1≠0 then (i,(stepN cs c i s).1)else goP cs (i+1) (stepN cs c i s).2:=by
 unfold goP
 obtain⟨hi,hv⟩:=List.getElem?_eq_some_iff.1 h
 rw[List.drop_eq_getElem_cons hi,hv,goN]
 split<;>rfl
theorem goP_end {cs:List Int} {i:Nat} (s:NS) (h:cs.length≤i) (hc:s.closed=false):goP cs i s=(i,4):=by
 unfold goP
 rw[List.drop_of_length_le h,goN,if_neg (by simp[hc])]
structure Kept (s s':NS):Prop where
 opn:s'.opn=s.opn
 closed:s'.closed=false
 len:s.spans.length≤s'.spans.length
 sp:∀t,t<s.spans.length→spanN s' t=spanN s t
theorem Kept.refl {s:NS} (h:s.closed=false):Kept s s:=⟨rfl,h,Nat.le_refl _,fun _ _=>rfl⟩
theorem Kept.trans {a b c:NS} (h:Kept a b) (k:Kept b c):Kept a c:=⟨k.opn.trans h.opn,k.closed,Nat.le_trans h.len k.len,fun t ht=>(k.sp t (Nat.lt_of_lt_of_le ht h.len)).trans (h.sp t ht)⟩
theorem spanN_set (s:NS) (t u:Nat) (x:Int×Int×Int) (h:t≠u):spanN { s with spans:=s.spans.set u x } t=spanN s t:=by
 unfold spanN
 rw[List.getD_eq_getElem?_getD,List.getD_eq_getElem?_getD,List.getElem?_set_ne (Ne.symm h)]
theorem spanN_set_self (s:NS) (t:Nat) (x:Int×Int×Int) (h:t<s.spans.length):spanN { s with spans:=s.spans.set t x } t=x:=by
 unfold spanN
 simp[List.getD_eq_getElem?_getD,h]
theorem stepN_five {cs:List Int} {i:Nat} {s:NS} (h:s.closed=false) (ho:s.opn.getLast?=none):stepN cs 5 i s=(4,s):=by
 unfold stepN opensC
 simp[h,ho]
theorem stepN_eleven {cs:List Int} {i:Nat} {s:NS} (h:s.closed=false) (ho:s.opn.getLast?=none):stepN cs 11 i s=(0,{ s with closed:=true }):=by
 unfold stepN opensC
 simp[h,ho]
theorem stepN_five_some {cs:List Int} {i t:Nat} {s:NS} {b e x:Int} (h:s.closed=false) (ho:s.opn.getLast?=some t) (hs:spanN s t=(b,e,x)) :
  stepN cs 5 i s=if codeN cs b=4∧e=-1 then (0,{ s with spans:=s.spans.set t (b,(i:Int),x) })else (4,s):=by
 unfold stepN opensC
 simp[h,ho,hs]
theorem stepN_eleven_some {cs:List Int} {i t:Nat} {s:NS} (h:s.closed=false) (ho:s.opn.getLast?=some t) :
  stepN cs 11 i s=(0,{ s with spans:=s.spans.set t ((spanN s t).1,(spanN s t).2.1,(i:Int)),opn:=s.opn.dropLast }):=by
 unfold stepN opensC
 simp[h,ho]
theorem block_walk (cs:List Int):∀(f at_ deep:Nat) (s:NS),cs.length<at_+f→at_≤cs.length→s.closed=false→s.opn.length=deep→deep≤64 →
  ((blockP cs f at_ deep).2≠0→goP cs at_ s=blockP cs f at_ deep) ∧
  ((blockP cs f at_ deep).2=0→(blockP cs f at_ deep).1=cs.length→goP cs at_ s=(cs.length,4)) ∧
  ((blockP cs f at_ deep).2=0→(blockP cs f at_ deep).1<cs.length→(cs[(blockP cs f at_ deep).1]?=some 11∨cs[(blockP cs f at_ deep).1]?=some 5)∧∃s',Kept s s'∧goP cs at_ s=goP cs (blockP cs f at_ deep).1 s'):=by
 intro f
 induction f with
 | zero=>intro at_ deep s h1 h2;omega
 | succ f ih =>
  intro at_ deep s h1 h2 hcl hd h64
  rw[blockP]
  cases hc:cs[at_]? with
  | none =>
   have hlen:at_=cs.length:=by
    have:=List.getElem?_eq_none_iff.1 hc
    omega
   simp only
   refine⟨fun h=>absurd rfl h,fun _ _=>?_,fun _ h=>by omega⟩
   rw[hlen]
   exact goP_end s (Nat.le_refl _) hcl
  | some c =>
   have hlt:at_<cs.length:=(List.getElem?_eq_some_iff.1 hc).1
   simp only
   by_cases hce:c=11∨c=5
   ·rw[if_pos hce]
    refine⟨fun h=>absurd rfl h,fun _ h=>by simp only at h;omega,fun _ _=>⟨?_,s,Kept.refl hcl,rfl⟩⟩
    rcases hce with rfl|rfl
    ·exact .inl hc
    ·exact .inr hc
   ·rw[if_neg hce]
    by_cases hco:c<2∨4<c
    ·rw[if_pos hco]
     have hst:stepN cs c at_ s=(0,s):=by
      have n1:¬opensC c:=by unfold opensC;omega
      have n2:¬c=5:=fun x=>hce (.inr x)
      have n3:¬c=11:=fun x=>hce (.inl x)
      unfold stepN
      rw[if_neg (by simp[hcl]),if_neg n1,if_neg n2,if_neg n3]
     have hg:goP cs at_ s=goP cs (at_+1) s:=by rw[goP_step s hc,hst];simp
     rw[hg]
     exact ih (at_+1) deep s (by omega) (by omega) hcl hd h64
    ·rw[if_neg hco]
     have hop:opensC c:=by unfold opensC;omega
     by_cases hdd:deep=64
     ·rw[if_pos hdd]
      have hst:stepN cs c at_ s=(15,s):=by
       unfold stepN
       rw[if_neg (by simp[hcl]),if_pos hop,if_pos (by omega)]
      refine⟨fun _=>?_,fun h=>by simp at h,fun h=>by simp at h⟩
      rw[goP_step s hc,hst]
      simp
     ·rw[if_neg hdd]
      have hst:stepN cs c at_ s=(0,{ spans:=s.spans++[((at_:Int),-1,-1)],opn:=s.opn++[s.spans.length],closed:=false,deep:=max s.deep (s.opn.length+1) }):=by
       unfold stepN
       rw[if_neg (by simp[hcl]),if_pos hop,if_neg (by omega)]
      obtain⟨s1,hs1⟩:∃s1:NS,s1={ spans:=s.spans++[((at_:Int),-1,-1)],opn:=s.opn++[s.spans.length],closed:=false,deep:=max s.deep (s.opn.length+1) }:=⟨_,rfl⟩
      have hg:goP cs at_ s=goP cs (at_+1) s1:=by rw[goP_step s hc,hst,hs1];simp
      have hs1o:s1.opn=s.opn++[s.spans.length]:=by rw[hs1]
      have hs1l:s1.spans.length=s.spans.length+1:=by rw[hs1];simp
      have hs1t:spanN s1 s.spans.length=((at_:Int),-1,-1):=by rw[hs1];unfold spanN;simp
      have hs1s:∀t,t<s.spans.length→spanN s1 t=spanN s t:=by
       intro t ht
       rw[hs1]
       unfold spanN
       simp only
       rw[List.getD_eq_getElem?_getD,List.getD_eq_getElem?_getD,List.getElem?_append_left ht]
      have hs1c:s1.closed=false:=by rw[hs1]
      rw[hg]
      clear hs1 hst hg
      have hge:=blockP_ge cs f (at_+1) (deep+1)
      have hle:=blockP_le cs f (at_+1) (deep+1) (by omega)
      obtain⟨i1,i2,i3⟩:=ih (at_+1) (deep+1) s1 (by omega) (by omega) hs1c (by rw[hs1o];simp;omega) (by omega)
      obtain⟨q,hq⟩:∃q,blockP cs f (at_+1) (deep+1)=q:=⟨_,rfl⟩
      rw[hq]at i1 i2 i3 hge hle ⊢
      have hend:∀(s2:NS) (p:Nat),Kept s1 s2∨(Kept { s1 with spans:=s1.spans.set s.spans.length ((at_:Int),(q.1:Int),-1) } s2)→cs[p]?=some 11→∃s3,goP cs p s2=goP cs (p+1) s3∧Kept s s3:=by
       intro s2 p hk hp
       have hk1:s2.opn=s.opn++[s.spans.length]∧s2.closed=false∧s.spans.length<s2.spans.length∧∀t,t<s.spans.length→spanN s2 t=spanN s t:=by
        rcases hk with k|k
        ·exact⟨k.opn.trans hs1o,k.closed,by have:=k.len;omega,fun t ht=>(k.sp t (by omega)).trans (hs1s t ht)⟩
        ·refine⟨k.opn.trans hs1o,k.closed,by have:(s1.spans.set s.spans.length ((at_:Int),(q.1:Int),-1)).length≤s2.spans.length:=k.len;rw[List.length_set]at this;omega,fun t ht=>(k.sp t (by show t<(s1.spans.set s.spans.length ((at_:Int),(q.1:Int),-1)).length;rw[List.length_set];omega)).trans ?_⟩
         rw[spanN_set _ _ _ _ (by omega)]
         exact hs1s t ht
       obtain⟨a1,a2,a3,a4⟩:=hk1
       refine⟨{ s2 with spans:=s2.spans.set s.spans.length ((spanN s2 s.spans.length).1,(spanN s2 s.spans.length).2.1,(p:Int)),opn:=s2.opn.dropLast },?_,?_,a2,?_,?_⟩
       ·rw[goP_step s2 hp]
        have:stepN cs 11 p s2=(0,{ s2 with spans:=s2.spans.set s.spans.length ((spanN s2 s.spans.length).1,(spanN s2 s.spans.length).2.1,(p:Int)),opn:=s2.opn.dropLast }):=by
         exact stepN_eleven_some a2 (by rw[a1];simp)
        rw[this]
        simp
       ·simp[a1]
       ·simp;omega
       ·intro t ht
        have:=spanN_set s2 t s.spans.length ((spanN s2 s.spans.length).1,(spanN s2 s.spans.length).2.1,(p:Int)) (by omega)
        exact Eq.trans this (a4 t ht)
      by_cases hq5:q.2=0∧cs[q.1]?=some 5
      ·rw[if_pos hq5]
       have hqlt:q.1<cs.length:=(List.getElem?_eq_some_iff.1 hq5.2).1
       obtain⟨_,s2,hk2,hg2⟩:=i3 hq5.1 hqlt
       rw[hg2]
       have hsp2:spanN s2 s.spans.length=((at_:Int),-1,-1):=(hk2.sp _ (by omega)).trans hs1t
       have hlast:s2.opn.getLast?=some s.spans.length:=by rw[hk2.opn,hs1o];simp
       have hcode:codeN cs (at_:Int)=c:=by unfold codeN;rw[Int.toNat_natCast,List.getD_eq_getElem?_getD,hc];rfl
       by_cases hc4:c=4
       ·rw[if_neg (fun x=>x hc4)]
        have hst2:stepN cs 5 q.1 s2=(0,{ s2 with spans:=s2.spans.set s.spans.length ((at_:Int),(q.1:Int),-1) }):=by
         rw[stepN_five_some hk2.closed hlast hsp2,if_pos ⟨by rw[hcode];exact hc4,rfl⟩]
        obtain⟨s3,hs3⟩:∃s3:NS,s3={ s2 with spans:=s2.spans.set s.spans.length ((at_:Int),(q.1:Int),-1) }:=⟨_,rfl⟩
        have hg3:goP cs q.1 s2=goP cs (q.1+1) s3:=by rw[goP_step s2 hq5.2,hst2,hs3];simp
        rw[hg3]
        have hs2l:s.spans.length<s2.spans.length:=by have:=hk2.len;omega
        have hk3:Kept { s1 with spans:=s1.spans.set s.spans.length ((at_:Int),(q.1:Int),-1) } s3:=by
         rw[hs3]
         refine⟨hk2.opn,hk2.closed,by simpa using hk2.len,fun t ht=>?_⟩
         simp at ht
         by_cases htt:t=s.spans.length
         ·subst htt
          rw[spanN_set_self _ _ _ hs2l,spanN_set_self _ _ _ (by omega)]
         ·rw[spanN_set _ _ _ _ htt,spanN_set _ _ _ _ htt]
          exact hk2.sp t ht
        have hge2:=blockP_ge cs f (q.1+1) (deep+1)
        have hle2:=blockP_le cs f (q.1+1) (deep+1) (by omega)
        obtain⟨j1,j2,j3⟩:=ih (q.1+1) (deep+1) s3 (by omega) (by omega) hk3.closed (by rw[hk3.opn,hs1o];simp;omega) (by omega)
        obtain⟨p,hp⟩:∃p,blockP cs f (q.1+1) (deep+1)=p:=⟨_,rfl⟩
        rw[hp]at j1 j2 j3 hge2 hle2 ⊢
        by_cases hp5:p.2=0∧cs[p.1]?=some 5
        ·rw[if_pos hp5]
         have hplt:p.1<cs.length:=(List.getElem?_eq_some_iff.1 hp5.2).1
         obtain⟨_,s4,hk4,hg4⟩:=j3 hp5.1 hplt
         have hk34:=hk3.trans hk4
         refine⟨fun _=>?_,fun h=>by simp at h,fun h=>by simp at h⟩
         rw[hg4,goP_step s4 hp5.2]
         have hsp4:spanN s4 s.spans.length=((at_:Int),(q.1:Int),-1):=by
          rw[hk34.sp _ (by simp;omega),spanN_set_self _ _ _ (by omega)]
         have hlast4:s4.opn.getLast?=some s.spans.length:=by rw[hk34.opn,hs1o];simp
         have:stepN cs 5 p.1 s4=(4,s4):=by
          rw[stepN_five_some hk34.closed hlast4 hsp4,if_neg (by omega)]
         rw[this]
         simp
        ·rw[if_neg hp5]
         by_cases hpe:p.2=0
         ·rw[if_neg (fun x=>x hpe)]
          by_cases hpl:p.1=cs.length
          ·rw[if_pos hpl]
           refine⟨fun _=>?_,fun h=>by simp at h,fun h=>by simp at h⟩
           rw[j2 hpe hpl,hpl]
          ·rw[if_neg hpl]
           obtain⟨h11,s4,hk4,hg4⟩:=j3 hpe (by omega)
           have hp11:cs[p.1]?=some 11:=by
            rcases h11 with h|h
            ·exact h
            ·exact absurd ⟨hpe,h⟩ hp5
           obtain⟨s5,hg5,hk5⟩:=hend s4 p.1 (.inr (hk3.trans hk4)) hp11
           rw[hg4,hg5]
           obtain⟨a1,a2,a3⟩:=ih (p.1+1) deep s5 (by omega) (by omega) hk5.closed (by rw[hk5.opn];exact hd) h64
           refine⟨a1,a2,fun x y=>?_⟩
           obtain⟨b1,s6,b2,b3⟩:=a3 x y
           exact⟨b1,s6,hk5.trans b2,b3⟩
         ·rw[if_pos hpe]
          refine⟨fun _=>j1 hpe,fun h=>absurd h hpe,fun h=>absurd h hpe⟩
       ·rw[if_pos hc4]
        refine⟨fun _=>?_,fun h=>by simp at h,fun h=>by simp at h⟩
        rw[goP_step s2 hq5.2]
        have:stepN cs 5 q.1 s2=(4,s2):=by
         rw[stepN_five_some hk2.closed hlast hsp2,if_neg (by rw[hcode];exact fun x=>hc4 x.1)]
        rw[this]
        simp
      ·rw[if_neg hq5]
       by_cases hqe:q.2=0
       ·rw[if_neg (fun x=>x hqe)]
        by_cases hql:q.1=cs.length
        ·rw[if_pos hql]
         refine⟨fun _=>?_,fun h=>by simp at h,fun h=>by simp at h⟩
         rw[i2 hqe hql,hql]
        ·rw[if_neg hql]
         obtain⟨h11,s2,hk2,hg2⟩:=i3 hqe (by omega)
         have hq11:cs[q.1]?=some 11:=by
          rcases h11 with h|h
          ·exact h
          ·exact absurd ⟨hqe,h⟩ hq5
         obtain⟨s3,hg3,hk3⟩:=hend s2 q.1 (.inl hk2) hq11
         rw[hg2,hg3]
         obtain⟨a1,a2,a3⟩:=ih (q.1+1) deep s3 (by omega) (by omega) hk3.closed (by rw[hk3.opn];exact hd) h64
         refine⟨a1,a2,fun x y=>?_⟩
         obtain⟨b1,s6,b2,b3⟩:=a3 x y
         exact⟨b1,s6,hk3.trans b2,b3⟩
       ·rw[if_pos hqe]
        exact⟨fun _=>i1 hqe,fun h=>absurd h hqe,fun h=>absurd h hqe⟩
def refSp (cs:List Int):Nat×Nat :=
 let q:=blockP cs (cs.length+1) 0 0
 if q.2≠0 then q else if q.1=cs.length∨cs[q.1]?=some 5 then (q.1,4)else if q.1+1<cs.length then (q.1+1,4)else (0,0)
theorem refSp_go (cs:List Int):refSp cs=goP cs 0 initN:=by
 obtain⟨i1,i2,i3⟩:=block_walk cs (cs.length+1) 0 0 initN (by omega) (by omega) rfl rfl (by omega)
 have hle:=blockP_le cs (cs.length+1) 0 0 (by omega)
 unfold refSp
 simp only
 by_cases h1:(blockP cs (cs.length+1) 0 0).2=0
 ·rw[if_neg (fun x=>x h1)]
  by_cases h2:(blockP cs (cs.length+1) 0 0).1=cs.length
  ·rw[if_pos (.inl h2),i2 h1 h2,h2]
  ·obtain⟨h3,s',hk,hg⟩:=i3 h1 (by omega)
   by_cases h5:cs[(blockP cs (cs.length+1) 0 0).1]?=some 5
   ·rw[if_pos (.inr h5),hg,goP_step s' h5]
    have:stepN cs 5 (blockP cs (cs.length+1) 0 0).1 s'=(4,s'):=by
     exact stepN_five hk.closed (by rw[hk.opn];rfl)
    rw[this]
    simp
   ·have h11:cs[(blockP cs (cs.length+1) 0 0).1]?=some 11:=by
     rcases h3 with h|h
     ·exact h
     ·exact absurd h h5
    rw[if_neg (by simp[h2,h5]),hg,goP_step s' h11]
    have:stepN cs 11 (blockP cs (cs.length+1) 0 0).1 s'=(0,{ s' with closed:=true }):=by
     exact stepN_eleven hk.closed (by rw[hk.opn];rfl)
    rw[this]
    simp only[ne_eq,not_true_eq_false,if_false]
    by_cases h6:(blockP cs (cs.length+1) 0 0).1+1<cs.length
    ·rw[if_pos h6]
     obtain⟨c,hc⟩:∃c,cs[(blockP cs (cs.length+1) 0 0).1+1]?=some c:=⟨_,List.getElem?_eq_getElem h6⟩
     rw[goP_step _ hc]
     have:stepN cs c ((blockP cs (cs.length+1) 0 0).1+1) { s' with closed:=true }=(4,{ s' with closed:=true }):=by
      unfold stepN
      rw[if_pos rfl]
     rw[this]
     simp
    ·rw[if_neg h6]
     unfold goP
     rw[List.drop_of_length_le (by omega),goN]
     simp
 ·rw[if_pos h1,i1 h1]
end Go.Proofs.YtpcanheghenhdaaGreat
