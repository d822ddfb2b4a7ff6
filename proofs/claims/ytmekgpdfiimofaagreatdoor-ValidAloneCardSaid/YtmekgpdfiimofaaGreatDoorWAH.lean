import Derived.Test.YtmekgpdfiimofaaGreatDoorWAG
import Derived.Test.YtmekgpdfiimofaaGreatDoorWAA
import Derived.ChangeArms
import Derived.ChangeOld
import Derived.Deep.Slices
import Derived.SizedLaws
set_option linter.unusedVariables false
namespace Go.Proofs.YtmekgpdfiimofaaGreatDoor
open Go.RowKit
theorem pushP_inv {s:PS} (h:InvP s) (l:List UInt8):InvP (pushP s l):=by
 refine⟨h.ne,?_,h.mono,h.res⟩
 have:=h.top
 show s.top.h≤(s.st++l).length
 rw[List.length_append]
 omega
theorem applyP_ok {s s2:PS} {p r:List UInt8} (h:applyP s p r=.ok s2) (hi:InvP s):InvP s2∧s2.bl=s.bl∧s2.st.length≤s.st.length+r.length:=by
 obtain⟨s1,h1,h2⟩:=then_ok h
 injection h2 with h2
 subst h2
 obtain⟨a,b,c⟩:=popsP_ok h1 hi
 refine⟨pushP_inv a r,b,?_⟩
 show (s1.st++r).length≤_
 rw[List.length_append]
 omega
theorem variableP_ok {v:PE} {s s2:PS} {x:XI} (h:variableP v s x=.ok s2) (hi:InvP s):InvP s2∧s2.bl=s.bl∧s2.st.length≤s.st.length+1:=by
 unfold variableP at h
 split at h
 ·obtain⟨t,_,h⟩:=then_ok h
  injection h with h
  subst h
  exact⟨pushP_inv hi _,rfl,by simp[pushP]⟩
 ·split at h
  ·obtain⟨t,_,h⟩:=then_ok h
   obtain⟨a,b,c⟩:=pop1_ok h hi
   exact⟨a,b,by omega⟩
  ·split at h
   ·obtain⟨t,_,h⟩:=then_ok h
    obtain⟨s1,h1,h⟩:=then_ok h
    injection h with h
    subst h
    obtain⟨a,b,c⟩:=pop1_ok h1 hi
    exact⟨pushP_inv a _,b,by show (s1.st++[t]).length≤_;rw[List.length_append];simp;omega⟩
   ·split at h
    ·obtain⟨t,_,h⟩:=then_ok h
     injection h with h
     subst h
     exact⟨pushP_inv hi _,rfl,by simp[pushP]⟩
    ·obtain⟨t,_,h⟩:=then_ok h
     obtain⟨_,h⟩:=need_ok h
     obtain⟨a,b,c⟩:=pop1_ok h hi
     exact⟨a,b,by omega⟩
theorem callP_ok {v:PE} {s s2:PS} {x:XI} (h:callP v s x=.ok s2) (hi:InvP s) (hr:∀i,(v.m.sigs.getD i noSg).r.length≤1000):InvP s2∧s2.bl=s.bl∧s2.st.length≤s.st.length+1000:=by
 unfold callP at h
 split at h
 ·obtain⟨_,h⟩:=need_ok h
  obtain⟨a,b,c⟩:=applyP_ok h hi
  have:=hr (sigN v.m x.a).toNat
  exact⟨a,b,by unfold sigOf at c;omega⟩
 ·split at h
  ·obtain⟨_,h⟩:=need_ok h
   obtain⟨s1,h1,h⟩:=then_ok h
   obtain⟨a1,b1,c1⟩:=pop1_ok h1 hi
   obtain⟨a,b,c⟩:=applyP_ok h a1
   have:=hr x.a
   exact⟨a,b.trans b1,by omega⟩
  ·split at h
   ·obtain⟨a,b,c⟩:=pop1_ok h hi
    exact⟨a,b,by omega⟩
   ·obtain⟨s1,h1,h⟩:=then_ok h
    obtain⟨q,h2,h⟩:=then_ok h
    obtain⟨q2,h3,h⟩:=then_ok h
    injection h with h
    subst h
    obtain⟨a1,b1,c1⟩:=pop1_ok h1 hi
    obtain⟨a2,b2,c2⟩:=popP_ok h2 a1
    obtain⟨a3,b3,c3⟩:=popP_ok h3 a2
    refine⟨pushP_inv a3 _,b3.trans (b2.trans b1),?_⟩
    show (q2.1.st++[q2.2]).length≤_
    rw[List.length_append]
    simp
    omega
theorem accessP_ok {v:PE} {s s2:PS} {x:XI} {w:Nat} {tk gv:List UInt8} (h:accessP v s x w tk gv=.ok s2) (hi:InvP s):InvP s2∧s2.bl=s.bl∧s2.st.length≤s.st.length+gv.length:=by
 obtain⟨l,_,h⟩:=then_ok h
 obtain⟨_,h⟩:=need_ok h
 obtain⟨_,h⟩:=need_ok h
 exact applyP_ok h hi
theorem bulkP_ok {v:PE} {s s2:PS} {x:XI} (h:bulkP v s x=.ok s2) (hi:InvP s):InvP s2∧s2.bl=s.bl∧s2.st.length≤s.st.length+1:=by
 obtain⟨l,_,h⟩:=then_ok h
 split at h
 ·injection h with h
  subst h
  exact⟨pushP_inv hi _,rfl,by simp[pushP]⟩
 ·split at h
  ·obtain⟨s1,h1,h⟩:=then_ok h
   injection h with h
   subst h
   obtain⟨a,b,c⟩:=pop1_ok h1 hi
   exact⟨pushP_inv a _,b,by show (s1.st++[adrT l]).length≤_;rw[List.length_append];simp;omega⟩
  ·split at h
   ·obtain⟨a,b,c⟩:=popsP_ok h hi
    exact⟨a,b,by omega⟩
   ·obtain⟨k,_,h⟩:=then_ok h
    obtain⟨a,b,c⟩:=popsP_ok h hi
    exact⟨a,b,by omega⟩
theorem set_same_h {l:List PB} {i:Nat} {b c:PB} (hb:l[i]?=some b) (hc:c.h=b.h):(l.set i c).map PB.h=l.map PB.h:=by
 apply List.ext_getElem?
 intro k
 rw[List.map_set,List.getElem?_set]
 split
 ·rename_i hk
  subst hk
  split
  ·rw[List.getElem?_map,hb];simp[hc]
  ·rename_i hn
   rw[List.getElem?_eq_none (by omega)]
 ·rfl
theorem killP_inv {s:PS} (h:InvP s):InvP (killP s)∧(killP s).bl.length=s.bl.length∧(killP s).st.length≤s.st.length:=by
 have ht:=top_last h.ne
 have hlen:(killP s).bl.length=s.bl.length:=by simp[killP,setTop]
 have htop:(killP s).top={ s.top with dead:=true }:=by
  show (s.bl.set (s.bl.length-1) { s.top with dead:=true }).getD ((s.bl.set (s.bl.length-1) { s.top with dead:=true }).length-1) noPB=_
  rw[List.length_set]
  have hlt:s.bl.length-1<s.bl.length:=by have:=List.length_pos_iff.2 h.ne;omega
  rw[List.getD_eq_getElem?_getD,List.getElem?_set_self hlt]
  rfl
 have hle:=h.top
 refine⟨⟨?_,?_,?_,?_⟩,hlen,by show (s.st.take s.top.h).length≤_;rw[List.length_take];omega⟩
 ·intro e
  have:=List.length_pos_iff.2 h.ne
  rw[e]at hlen
  simp at hlen
  omega
 ·rw[htop]
  show s.top.h≤(s.st.take s.top.h).length
  rw[List.length_take]
  omega
 ·have hm:=h.mono
  rw[←List.pairwise_map (f:=PB.h) (R:=(·≤·))]at hm ⊢
  show (List.map PB.h (s.bl.set (s.bl.length-1) { s.top with dead:=true })).Pairwise _
  rw[set_same_h (c:={ s.top with dead:=true }) ht rfl]
  exact hm
 ·intro b hb
  rcases List.mem_or_eq_of_mem_set hb with hb|hb
  ·exact h.res b hb
  ·subst hb
   exact h.res s.top (List.mem_of_getElem? ht)
theorem openP_inv {s:PS} (h:InvP s) (c:Int) (a:Nat):InvP (openP s c a)∧(openP s c a).bl.length=s.bl.length+1∧(openP s c a).st.length=s.st.length:=by
 have htop:(openP s c a).top=⟨c==3,c==4,if a=64 then []else [UInt8.ofNat a],s.st.length,false⟩:=by
  show (s.bl++[_]).getD ((s.bl++[_]).length-1) noPB=_
  simp
 refine⟨⟨by simp[openP],?_,?_,?_⟩,by simp[openP],rfl⟩
 ·rw[htop]
  exact Nat.le_refl _
 ·show (s.bl++[_]).Pairwise _
  rw[List.pairwise_append]
  refine⟨h.mono,by simp,fun b hb d hd=>?_⟩
  simp at hd
  subst hd
  show b.h≤s.st.length
  have ht:=top_last h.ne
  obtain⟨i,hi,hbi⟩:=List.getElem_of_mem hb
  have hle:b.h≤s.top.h:=by
   by_cases hl:i=s.bl.length-1
   ·subst hl
    rw[List.getElem?_eq_getElem hi,hbi]at ht
    injection ht with ht
    rw[ht]
    exact Nat.le_refl _
   ·have hlt:s.bl.length-1<s.bl.length:=by omega
    have:=List.pairwise_iff_getElem.1 h.mono i (s.bl.length-1) hi hlt (by omega)
    rw[List.getElem?_eq_getElem hlt]at ht
    injection ht with ht
    rw[hbi,ht]at this
    exact this
  have:=h.top
  omega
 ·intro b hb
  have hb2:b∈s.bl++[(⟨c==3,c==4,if a=64 then []else [UInt8.ofNat a],s.st.length,false⟩:PB)]:=hb
  rcases List.mem_append.1 hb2 with hb2|hb2
  ·exact h.res b hb2
  ·simp at hb2
   subst hb2
   show (if a=64 then []else [UInt8.ofNat a]:List UInt8).length≤1000
   split<;>simp
theorem closed_inv {s:PS} {st:List UInt8} (h:InvP s) (hs:st.length=s.top.h) (hl:2≤s.bl.length):InvP ⟨st,s.bl.take (s.bl.length-1)⟩:=by
 have ht:=top_last h.ne
 have hlt:s.bl.length-1<s.bl.length:=by omega
 have hlt2:s.bl.length-2<s.bl.length:=by omega
 have htop:(⟨st,s.bl.take (s.bl.length-1)⟩:PS).top=s.bl[s.bl.length-2]:=by
  show (s.bl.take (s.bl.length-1)).getD ((s.bl.take (s.bl.length-1)).length-1) noPB=_
  rw[List.length_take,Nat.min_eq_left (by omega),List.getD_eq_getElem?_getD,List.getElem?_take_of_lt (by omega)]
  rw[show s.bl.length-1-1=s.bl.length-2 from by omega,List.getElem?_eq_getElem hlt2]
  rfl
 refine⟨fun e=>?_,?_,h.mono.sublist (List.take_sublist _ _),fun b hb=>h.res b (List.mem_of_mem_take hb)⟩
 ·have h0:(s.bl.take (s.bl.length-1)).length=0:=by rw[show s.bl.take (s.bl.length-1)=[]from e];rfl
  rw[List.length_take]at h0
  omega
 ·rw[htop]
  show _≤st.length
  rw[hs]
  have:=List.pairwise_iff_getElem.1 h.mono (s.bl.length-2) (s.bl.length-1) hlt2 hlt (by omega)
  rw[List.getElem?_eq_getElem hlt]at ht
  injection ht with ht
  rw[ht]at this
  exact this
theorem bl_split {s:PS} (h:s.bl≠[]):s.bl=s.bl.take (s.bl.length-1)++[s.top]:=by
 have hl:=List.length_pos_iff.2 h
 have ht:=top_last h
 have hlt:s.bl.length-1<s.bl.length:=by omega
 conv=>lhs;rw[←List.take_append_drop (s.bl.length-1) s.bl]
 congr 1
 rw[List.drop_eq_getElem_cons hlt]
 rw[List.getElem?_eq_getElem hlt]at ht
 injection ht with ht
 rw[ht,List.drop_eq_nil_of_le (by omega)]
theorem otherP_inv {s s2:PS} (h:otherP s=.ok s2) (hi:InvP s):InvP s2∧s2.bl.length=s.bl.length∧s2.st.length≤s.st.length:=by
 obtain⟨q,h1,h2⟩:=then_ok h
 injection h2 with h2
 obtain⟨e1,e2,e3,e4⟩:=closeP_ok h1 hi
 rw[e1,e2]at h2
 subst h2
 have hl:=List.length_pos_iff.2 hi.ne
 have hm:(s.bl.take (s.bl.length-1)++[{ s.top with is_:=false,dead:=false }]).map PB.h=s.bl.map PB.h:=by
  conv=>rhs;rw[bl_split hi.ne]
  simp
 have htop:(⟨q.1.st,s.bl.take (s.bl.length-1)++[{ s.top with is_:=false,dead:=false }]⟩:PS).top={ s.top with is_:=false,dead:=false }:=by
  show (s.bl.take (s.bl.length-1)++[_]).getD ((s.bl.take (s.bl.length-1)++[_]).length-1) noPB=_
  simp
 refine⟨⟨by simp,?_,?_,fun b hb=>?_⟩,by simp;omega,e4⟩
 ·rw[htop]
  show s.top.h≤q.1.st.length
  omega
 ·have:=hi.mono
  rw[←List.pairwise_map (f:=PB.h) (R:=(·≤·))]at this ⊢
  rw[hm]
  exact this
 ·rcases List.mem_append.1 hb with hb|hb
  ·exact hi.res b (List.mem_of_mem_take hb)
  ·simp at hb
   subst hb
   exact hi.res s.top (List.mem_of_getElem? (top_last hi.ne))
theorem endP_inv {s s2:PS} (h:endP s=.ok s2) (hi:InvP s):s2.st.length≤s.st.length+1000∧(s.bl.length=1→s2.bl=[])∧(2≤s.bl.length→InvP s2∧s2.bl.length=s.bl.length-1):=by
 obtain⟨q,h1,h2⟩:=then_ok h
 obtain⟨_,h2⟩:=need_ok h2
 injection h2 with h2
 obtain⟨e1,e2,e3,e4⟩:=closeP_ok h1 hi
 have hres:=hi.res s.top (List.mem_of_getElem? (top_last hi.ne))
 subst h2
 rw[e1]
 refine⟨by show (q.1.st++s.top.res).length≤_;rw[List.length_append];omega,fun h1=>?_,fun h2=>?_⟩
 ·show q.1.bl=[]
  rw[e2,h1]
  rfl
 ·have hc:=closed_inv hi e3 h2
  rw[show (⟨q.1.st,s.bl.take (s.bl.length-1)⟩:PS)=q.1 from by rw[←e2]]at hc
  refine⟨pushP_inv hc _,?_⟩
  show q.1.bl.length=_
  rw[e2]
  simp
theorem labelP_len {s:PS} {n:Nat} {l:List UInt8} (h:labelP s n=.ok l) (hi:InvP s):l.length≤1000:=by
 unfold labelP at h
 obtain⟨hn,h⟩:=need_ok h
 injection h with h
 subst h
 split
 ·simp
 ·have hlt:s.bl.length-1-n<s.bl.length:=by have:=List.length_pos_iff.2 hi.ne;omega
  exact hi.res _ (List.mem_of_getElem? (getD_lt hlt))
structure KeepP (s s2:PS) (c:Int):Prop where
 st:s2.st.length≤s.st.length+1000
 opn:opensC c→InvP s2∧s2.bl.length=s.bl.length+1
 last:c=11→s.bl.length=1→s2.bl=[]
 cls:c=11→2≤s.bl.length→InvP s2∧s2.bl.length=s.bl.length-1
 els:¬opensC c→c≠11→InvP s2∧s2.bl.length=s.bl.length
theorem KeepP.same {s s2:PS} {c:Int} (h1:s2.st.length≤s.st.length+1000) (h2:InvP s2) (h3:s2.bl.length=s.bl.length) (hc:c=2∨c=3∨c=4∨c=11→False):KeepP s s2 c :=
 ⟨h1,fun ho=>(hc (by unfold opensC at ho;omega)).elim,fun h=>(hc (by omega)).elim,fun h=>(hc (by omega)).elim,fun _ _=>⟨h2,h3⟩⟩
theorem KeepP.open_ {s s2:PS} {c:Int} (h1:s2.st.length≤s.st.length+1000) (h2:InvP s2) (h3:s2.bl.length=s.bl.length+1) (hc:opensC c):KeepP s s2 c :=
 ⟨h1,fun _=>⟨h2,h3⟩,fun h=>by unfold opensC at hc;omega,fun h=>by unfold opensC at hc;omega,fun h=>absurd hc h⟩
theorem branchP_inv {s s2:PS} {x:XI} (h:branchP s x=.ok s2) (hi:InvP s):InvP s2∧s2.bl.length=s.bl.length∧s2.st.length≤s.st.length:=by
 unfold branchP at h
 obtain⟨_,_,h⟩:=then_ok h
 obtain⟨_,_,h⟩:=then_ok h
 obtain⟨_,_,h⟩:=then_ok h
 obtain⟨s1,h1,h⟩:=then_ok h
 obtain⟨s3,h2,h⟩:=then_ok h
 injection h with h
 subst h
 obtain⟨a1,b1,c1⟩:=pop1_ok h1 hi
 obtain⟨a2,b2,c2⟩:=popsP_ok h2 a1
 obtain⟨a3,b3,c3⟩:=killP_inv a2
 exact⟨a3,by rw[b3,b2,b1],by omega⟩
theorem controlP_keep {v:PE} {s s2:PS} {x:XI} (hc:ctrlC x.code=true) (h:controlP v s x=.ok s2) (hi:InvP s):KeepP s s2 x.code:=by
 unfold controlP at h
 split at h
 ·rename_i e0
  injection h with h
  subst h
  obtain⟨a,b,c⟩:=killP_inv hi
  exact KeepP.same (by omega) a b (by omega)
 split at h
 ·rename_i e0
  obtain⟨s1,h1,h⟩:=then_ok h
  injection h with h
  subst h
  obtain⟨a1,b1,c1⟩:=pop1_ok h1 hi
  obtain⟨a,b,c⟩:=openP_inv a1 x.code x.a
  exact KeepP.open_ (by omega) a (by rw[b,b1]) (by unfold opensC;omega)
 split at h
 ·rename_i e0
  injection h with h
  subst h
  obtain⟨a,b,c⟩:=openP_inv hi x.code x.a
  exact KeepP.open_ (by omega) a b (by unfold opensC;omega)
 split at h
 ·rename_i e0
  obtain⟨a,b,c⟩:=otherP_inv h hi
  exact KeepP.same (by omega) a b (by omega)
 split at h
 ·rename_i e0
  obtain⟨a,b,c⟩:=endP_inv h hi
  exact⟨a,fun ho=>by unfold opensC at ho;omega,fun _=>b,fun _=>c,fun _ h=>absurd e0 h⟩
 split at h
 ·obtain⟨l,hl,h⟩:=then_ok h
  obtain⟨s1,h1,h⟩:=then_ok h
  injection h with h
  subst h
  obtain⟨a1,b1,c1⟩:=popsP_ok h1 hi
  obtain⟨a,b,c⟩:=killP_inv a1
  exact KeepP.same (by omega) a (by rw[b,b1]) (by omega)
 split at h
 ·obtain⟨l,hl,h⟩:=then_ok h
  obtain⟨s1,h1,h⟩:=then_ok h
  obtain⟨s3,h3,h⟩:=then_ok h
  injection h with h
  subst h
  obtain⟨a1,b1,c1⟩:=pop1_ok h1 hi
  obtain⟨a2,b2,c2⟩:=popsP_ok h3 a1
  have:=labelP_len hl hi
  exact KeepP.same (by show (s3.st++l).length≤_;rw[List.length_append];omega) (pushP_inv a2 l) (by show s3.bl.length=_;rw[b2,b1]) (by omega)
 split at h
 ·obtain⟨a,b,c⟩:=branchP_inv h hi
  exact KeepP.same (by omega) a b (by omega)
 ·rename_i _ _ e2 _ e11 _ _ _
  obtain⟨s1,h1,h⟩:=then_ok h
  injection h with h
  subst h
  obtain⟨a1,b1,c1⟩:=popsP_ok h1 hi
  obtain⟨a,b,c⟩:=killP_inv a1
  exact KeepP.same (by omega) a (by rw[b,b1]) (by omega)
theorem stepP_keep {v:PE} {s s2:PS} {x:XI} {f:Int} {w:Nat} {tk gv:List UInt8} (h:stepP v s x f w tk gv=.ok s2) (hi:InvP s) (hr:∀i,(v.m.sigs.getD i noSg).r.length≤1000) (hg:gv.length≤1000):KeepP s s2 x.code:=by
 unfold stepP at h
 split at h
 ·rename_i hc
  exact controlP_keep hc h hi
 ·rename_i hc
  have hn:x.code=2∨x.code=3∨x.code=4∨x.code=11→False:=by
   intro hq
   apply hc
   unfold ctrlC
   rcases hq with e|e|e|e<;>rw[e]<;>rfl
  split at h
  ·obtain⟨a,b,c⟩:=variableP_ok h hi
   exact KeepP.same (by omega) a (by rw[b]) hn
  split at h
  ·obtain⟨a,b,c⟩:=callP_ok h hi hr
   exact KeepP.same (by omega) a (by rw[b]) hn
  split at h
  ·obtain⟨a,b,c⟩:=accessP_ok h hi
   exact KeepP.same (by omega) a (by rw[b]) hn
  split at h
  ·obtain⟨a,b,c⟩:=bulkP_ok h hi
   exact KeepP.same (by omega) a (by rw[b]) hn
  ·obtain⟨a,b,c⟩:=applyP_ok h hi
   exact KeepP.same (by omega) a (by rw[b]) hn
def NR (s:PS) (ns:NS):Prop:=ns.closed=false→InvP s∧s.bl.length=ns.opn.length+1
theorem goN_cons {cs:List Int} {c:Int} {r:List Int} {k:Nat} {ns:NS} (h:(goN cs (c::r) k ns).2.1=0):ns.closed=false∧(stepN cs c k ns).1=0∧(goN cs r (k+1) (stepN cs c k ns).2).2.1=0:=by
 rw[goN]at h
 split at h
 ·rename_i hne
  exact absurd h hne
 ·rename_i he
  have he:(stepN cs c k ns).1=0:=by omega
  refine⟨?_,he,h⟩
  cases hc:ns.closed with
  | false=>rfl
  | true=>unfold stepN at he;rw[if_pos hc]at he;cases he
theorem NR.step {cs:List Int} {k:Nat} {ns:NS} {c:Int} {s s2:PS} (hc:ns.closed=false) (he:(stepN cs c k ns).1=0) (h:NR s ns) (hk:KeepP s s2 c):NR s2 (stepN cs c k ns).2:=by
 obtain⟨hi,hl⟩:=h hc
 intro hn
 unfold stepN at he hn ⊢
 rw[hc]at he hn ⊢
 simp only[Bool.false_eq_true,if_false]at he hn ⊢
 by_cases ho:opensC c
 ·rw[if_pos ho]at he hn ⊢
  obtain⟨a,b⟩:=hk.opn ho
  by_cases h64:ns.opn.length=64
  ·rw[if_pos h64]at he;cases he
  ·rw[if_neg h64]
   exact⟨a,by simp;omega⟩
 ·rw[if_neg ho]at he hn ⊢
  by_cases h5:c=5
  ·obtain⟨a,b⟩:=hk.els ho (by omega)
   rw[if_pos h5]at he hn ⊢
   split at he
   ·cases he
   ·split at he
    ·rename_i t ht hq
     rw[if_pos hq]
     exact⟨a,by show _=ns.opn.length+1;omega⟩
    ·cases he
  ·rw[if_neg h5]at he hn ⊢
   by_cases h11:c=11
   ·rw[if_pos h11]at he hn ⊢
    cases hg:ns.opn.getLast? with
    | none=>rw[hg]at hn;cases hn
    | some t =>
     have hne:1≤ns.opn.length:=by
      cases hq:ns.opn with
      | nil=>rw[hq]at hg;cases hg
      | cons a b=>simp
     obtain⟨a,b⟩:=hk.cls h11 (by omega)
     exact⟨a,by simp;omega⟩
   ·rw[if_neg h11]
    obtain⟨a,b⟩:=hk.els ho h11
    exact⟨a,by show _=ns.opn.length+1;omega⟩
theorem startP_inv (r:List UInt8) (h:r.length≤1000):InvP ⟨[],[⟨false,false,r,0,false⟩]⟩ :=
 ⟨by simp,Nat.le_refl _,by simp,fun b hb=>by simp at hb;subst hb;exact h⟩
theorem KeepP.len {s s2:PS} {c:Int} (h:KeepP s s2 c) (hi:InvP s):s2.bl.length≤s.bl.length+1:=by
 have hl:=List.length_pos_iff.2 hi.ne
 by_cases ho:opensC c
 ·have:=(h.opn ho).2;omega
 ·by_cases h11:c=11
  ·by_cases h1:s.bl.length=1
   ·rw[h.last h11 h1];simp
   ·have:=(h.cls h11 (by omega)).2;omega
  ·have:=(h.els ho h11).2;omega
end Go.Proofs.YtmekgpdfiimofaaGreatDoor
namespace Go.Proofs.YtmekgpdfiimofaaGreatDoor
open Go.RowKit Go.ChangeShapes Go.WideShapes Go.Deep
def Opens {H:Type} (enc:TypeId×Value→H) (P:Program) (w:World) (e:TypeId) {α:Type} (dec:α→List Value) (ok:α→Prop):Prop :=
 ∀(spare:Nat→Bool) (held:Bool) (m:Nat) (cs:List Value) (y:DataW H×List MemPlace),DataW.trod enc P w 0 spare held m e cs=some y→(∀n∈y.1.weights P e,n≤reachBytes)→∃a:α,cs=dec a∧ok a
def OpensF {H:Type} (enc:TypeId×Value→H) (P:Program) (w:World) (fs:List Field) (off:Nat) {α:Type} (dec:α→List Value) (ok:α→Prop):Prop :=
 ∀(spare:Nat→Bool) (held:Bool) (m:Nat) (cs:List Value),cs.length=off+(fs.map fun f=>P.cellsOf f.type).sum→(∀f∈fs,∃y,DataW.trod enc P w 0 spare held m f.type ((cs.drop f.offset).take (P.cellsOf f.type))=some y∧∀n∈y.1.weights P f.type,n≤reachBytes)→∃a:α,cs.drop off=dec a∧ok a
section
variable {H:Type} {enc:TypeId×Value→H} {P:Program} {w:World}
theorem Opens.int {e:TypeId} {k:IntKind} (he:P.underlying e=some (.int k)):Opens enc P w e (fun n:Int=>[.int k n]) (fun n=>(Lit.int k n).wf=true):=by
 intro spare held m cs y h _
 obtain⟨n,rfl,_,hw⟩:=DataW.trod_int he h
 exact⟨n,rfl,hw⟩
theorem Opens.bool {e:TypeId} (he:P.underlying e=some .bool):Opens enc P w e (fun b:Bool=>[.bool b]) (fun _=>True):=by
 intro spare held m cs y h _
 obtain⟨b,rfl,_⟩:=DataW.trod_bool he h
 exact⟨b,rfl,trivial⟩
structure Sl (α:Type) where
 at_:Option Addr
 cap:Nat
 l:List α
def Sl.val {α:Type} (s:Sl α):Value:=.slice s.at_ s.l.length s.cap
theorem flatMap_get {α:Type} {dec:α→List Value} {size:Nat} (hd:∀a,(dec a).length=size):∀(ys:List α) (i j:Nat) (a:α),ys[i]?=some a→j<size→(ys.flatMap dec)[i*size+j]?=(dec a)[j]?:=by
 intro ys
 induction ys with
 | nil=>intro i j a h;simp at h
 | cons b r ih =>
  intro i j a h hj
  rw[List.flatMap_cons]
  cases i with
  | zero =>
   have:b=a:=by simpa using h
   subst this
   rw[Nat.zero_mul,Nat.zero_add,List.getElem?_append_left (by rw[hd];exact hj)]
  | succ i =>
   rw[List.getElem?_append_right (by rw[hd,Nat.succ_mul];omega),hd,show (i+1)*size+j-size=i*size+j from by rw[Nat.succ_mul];omega]
   exact ih i j a (by simpa using h) hj
theorem flatMap_len {α:Type} {dec:α→List Value} {size:Nat} (hd:∀a,(dec a).length=size) (ys:List α):(ys.flatMap dec).length=ys.length*size:=by
 induction ys with
 | nil=>simp
 | cons b r ih=>rw[List.flatMap_cons,List.length_append,hd,ih,List.length_cons,Nat.succ_mul];omega
structure Sl.Ok {α:Type} (w:World) (dec:α→List Value) (size bytes:Nat) (ok:α→Prop) (s:Sl α):Prop where
 reads:Reads w w.heap.size size s.at_ s.l.length (s.l.flatMap dec)
 len:s.l.length≤s.cap
 cap:s.cap≤maxLen
 reach:s.l.length*bytes≤140737488351232
 nil_:s.at_=none→s.l=[]∧s.cap=0
 all:∀a∈s.l,ok a
theorem weightsAll_mem {e:TypeId}:∀{ds:List (DataW H)} {d:DataW H},d∈ds→∀n∈d.weights P e,n∈DataW.weightsAll P e ds
 | [],d,h,_,_=>by simp at h
 | d0::r,d,h,n,hn=>by
  simp only[DataW.weightsAll,List.mem_append]
  rcases List.mem_cons.1 h with rfl|h
  ·exact .inl hn
  ·exact .inr (weightsAll_mem h n hn)
theorem Opens.slice {t e:TypeId} {α:Type} {dec:α→List Value} {ok:α→Prop} {size bytes:Nat} (ht:P.underlying t=some (.slice e)) (hC:P.cellsOf e=size) (hB:P.bytesOf e=bytes) (hpos:0<size) (hd:∀a,(dec a).length=size) (h:Opens enc P w e dec ok) :
  Opens enc P w t (fun s:Sl α=>[s.val]) (Sl.Ok w dec size bytes ok):=by
 intro spare held m cs y hy hw
 rcases open_slice ht hy with ⟨rfl,_⟩|⟨a,len,cap,k,n,D,Pl,rfl,_,hl,hm,hk,hyy,hi⟩
 ·exact⟨⟨none,0,[]⟩,rfl,⟨Reads.none_,Nat.le_refl _,by show 0≤maxLen;unfold maxLen;omega,by simp,fun _=>⟨rfl,rfl⟩,by simp⟩⟩
 ·have hkl:len≤k:=by rw[hk];split<;>omega
  have hreach:len*bytes≤140737488351232:=by
   have:=hw ((((List.range len).map D).length+((List.range (k-len)).map fun j=>D (len+j)).length)*P.bytesOf e) (by
    rw[hyy]
    simp only[DataW.weights,ht]
    exact List.mem_cons_self ..)
   rw[hB]at this
   simp only[List.length_map,List.length_range,reachBytes]at this
   exact Nat.le_trans (Nat.mul_le_mul_right _ (Nat.le_add_right _ _)) this
  have hel:∀i,i<len→∃b:α,(∀j,j<size→w.cell? (a.add (i*size+j))=(dec b)[j]?)∧ok b:=by
   intro i hi'
   obtain⟨cs',hc,ht'⟩:=hi i (by omega)
   rw[hC]at hc
   obtain⟨_,hlen,hcell⟩:=World.cells?_some hc
   obtain⟨b,rfl,hb⟩:=h spare held n cs' _ ht' (fun q hq=>hw q (by
    rw[hyy]
    simp only[DataW.weights,ht]
    refine List.mem_cons_of_mem _ (List.mem_append_left _ ?_)
    exact weightsAll_mem (List.mem_map.2 ⟨i,List.mem_range.2 hi',rfl⟩) q hq))
   exact⟨b,fun j hj=>by rw[←hcell j hj,add_of_add],hb⟩
  have hex:∃ys:List α,ys.length=len∧∀(i:Nat) (b:α),ys[i]?=some b→(∀j,j<size→w.cell? (a.add (i*size+j))=(dec b)[j]?)∧ok b:=by
   clear hi hl hm hk hkl hy h hyy hreach
   induction len with
   | zero=>exact⟨[],rfl,by simp⟩
   | succ len ih =>
    obtain⟨ys,h1,h2⟩:=ih (fun i hi'=>hel i (by omega))
    obtain⟨b,hb⟩:=hel len (by omega)
    refine⟨ys++[b],by simp[h1],fun i c hc=>?_⟩
    by_cases hil:i<ys.length
    ·rw[List.getElem?_append_left hil]at hc
     exact h2 i c hc
    ·rw[List.getElem?_append_right (by omega)]at hc
     have hi0:i-ys.length=0:=by
      have:=(List.getElem?_eq_some_iff.1 hc).1
      simp at this
      omega
     rw[hi0]at hc
     have:b=c:=by simpa using hc
     subst this
     rw[show i=len from by omega]
     exact hb
  obtain⟨ys,h1,h2⟩:=hex
  subst h1
  refine⟨⟨some a,cap,ys⟩,rfl,⟨⟨flatMap_len hd ys,fun hn=>⟨a,rfl,?_,fun j u hu=>?_⟩⟩,hl,hm,hreach,(fun h=>by cases h),fun b hb=>?_⟩⟩
  ·have hn':0<ys.length:=hn
   obtain⟨h3,_⟩:=h2 0 ys[0] (List.getElem?_eq_getElem hn')
   have h4:=h3 0 hpos
   have hlt:0<(dec ys[0]).length:=by rw[hd];exact hpos
   rw[List.getElem?_eq_getElem hlt]at h4
   have:=World.block_lt_of_cell? w _ h4
   rw[block_of_add]at this
   exact this
  ·have hj:j<ys.length*size:=by
    have:=(List.getElem?_eq_some_iff.1 hu).1
    rw[flatMap_len hd]at this
    exact this
   have hq:j/size<ys.length:=(Nat.div_lt_iff_lt_mul hpos).2 hj
   have hr:j%size<size:=Nat.mod_lt _ hpos
   have hjj:j/size*size+j%size=j:=by rw[Nat.mul_comm];exact Nat.div_add_mod j size
   obtain⟨h3,_⟩:=h2 _ _ (List.getElem?_eq_getElem hq)
   have h4:=h3 _ hr
   have h5:=flatMap_get hd ys _ _ _ (List.getElem?_eq_getElem hq) hr
   rw[hjj]at h4 h5
   rw[h4,←h5]
   exact hu
  ·obtain⟨i,hi',hb'⟩:=List.getElem_of_mem hb
   exact(h2 i b (by rw[List.getElem?_eq_getElem hi',hb'])).2
theorem OpensF.nil {off:Nat}:OpensF enc P w [] off (fun _:Unit=>[]) (fun _=>True):=by
 intro spare held m cs hl _
 exact⟨(),by simp at hl;simp[hl],trivial⟩
theorem OpensF.cons {f:Field} {fs:List Field} {off k:Nat} {α β:Type} {dec:α→List Value} {ok:α→Prop} {dec':β→List Value} {ok':β→Prop} (ho:f.offset=off) (hk:P.cellsOf f.type=k)
  (h:Opens enc P w f.type dec ok) (hs:OpensF enc P w fs (off+k) dec' ok'):OpensF enc P w (f::fs) off (fun p:α×β=>dec p.1++dec' p.2) (fun p=>ok p.1∧ok' p.2):=by
 intro spare held m cs hl hall
 obtain⟨y,hy,hyw⟩:=hall f (by simp)
 obtain⟨a,ha,hoka⟩:=h spare held m _ y hy hyw
 obtain⟨b,hb,hokb⟩:=hs spare held m cs (by rw[hl,List.map_cons,List.sum_cons,hk];omega) (fun g hg=>hall g (by simp[hg]))
 refine⟨(a,b),?_,hoka,hokb⟩
 simp only
 rw[←ha,←hb,ho,hk,←List.drop_drop,List.take_append_drop]
theorem Opens.struct {t:TypeId} {fs:Array Field} {α:Type} {dec:α→List Value} {ok:α→Prop} (ht:P.underlying t=some (.struct fs)) (hC:P.cellsOf t=(fs.toList.map fun f=>P.cellsOf f.type).sum)
  (h:OpensF enc P w fs.toList 0 dec ok):Opens enc P w t dec ok:=by
 intro spare held m cs y hy hw
 obtain⟨xs,n,_,hyy,hlen,hxs,hf⟩:=DataW.trod_struct ht hy
 obtain⟨a,ha,hok⟩:=h spare held n cs (by rw[hlen,hC,Nat.zero_add]) (fun f hf'=>by
  obtain⟨i,hi,hif⟩:=List.getElem_of_mem hf'
  have hi':i<fs.size:=by simpa using hi
  have h1:=hf i f (by rw[Array.getElem?_eq_getElem hi'];simpa using hif)
  have h2:i<xs.length:=by omega
  refine⟨xs[i],by rw[h1,List.getElem?_eq_getElem h2],fun q hq=>hw q ?_⟩
  rw[hyy]
  simp only[DataW.weights,ht]
  refine DataW.weights_mem_each (j:=i) (t:=f.type) (d:=(xs[i]).1) ?_ ?_ q hq
  ·rw[List.getElem?_map,Array.getElem?_toList,Array.getElem?_eq_getElem hi']
   simp only[Option.map_some,Option.some.injEq]
   rw[show fs[i]=f from by simpa using hif]
  ·rw[List.getElem?_map,List.getElem?_eq_getElem h2]
   rfl)
 exact⟨a,by simpa using ha,hok⟩
end
end Go.Proofs.YtmekgpdfiimofaaGreatDoor
