import Derived.Orders
import Derived.Tactics
import Derived.Below
import Derived.Test.YtomppgohoplemaaGreatRows
import Derived.Test.YtomppgohoplemaaGreatNAA
import Derived.Maps.RangeWalk
import Derived.Deep.QuietTactic
import Derived.BigQuiet
import Derived.IntWalk
import Derived.Outline
set_option linter.unusedVariables false
namespace Go.Proofs.YtomppgohoplemaaGreat
open Go.RowKit
def depsOf (o:Oper):List Nat:=(o.after.toList.filter (Region.binds .any)).map (·.on)
def WasR (R:World→World→Prop) (F:Value→World→Prop) (v:Value) (w:World):Prop:=∃w1,R w1 w∧F v w1
structure IsExt (R:World→World→Prop):Prop where
 refl:∀w,R w w
 trans:∀{a b c},R a b→R b c→R a c
 drew:∀w,R w w.drew
theorem WasR.pure {R:World→World→Prop} {x v:Value} {w:World} (h:WasR R (fun u _=>u=x) v w):v=x:=h.choose_spec.2
def fillL:List Oper→Nat→(Nat→Value)→Act→Act
 | [],_,_,a=>a
 | o::r,i,vs,a=>fillL r (i+1) vs (a.put o.dst (vs i))
structure OpOut (P:Program) (o:Oper) (ρ:Operand→Value) (W:World) (post:Value→World→Prop):Prop where
 out:match (execOp ρ o).run P W with
  | .ok (.value v) w'=>post v w'
  | .ok .skip w'=>post undef w'
  | .ok (.enter f args) w'=>Calls P f args w' (fun e w''=>∃v,e=.returned v∧post v w'')
  | _=>False
theorem OpOut.call {P:Program} {o:Oper} {ρ:Operand→Value} {W:World} {post:Value→World→Prop} {f:FuncId} {args:Array Value} (h:(execOp ρ o).run P W=.ok (.enter f args) W) (hc:Calls P f args W (fun e w''=>∃v,e=.returned v∧post v w'')):OpOut P o ρ W post:=⟨by rw[h];exact hc⟩
structure KnowR (R:World→World→Prop) (l:List Oper) (F:Nat→Value→World→Prop) (a0:Act) (w0:World) (o:Oper) (ρ:Operand→Value) (W:World):Prop where
 below:R w0 W
 const:∀v,ρ (.const v)=v
 func:∀f,ρ (.func f)=.func (.func f) #[] #[]
 glob:∀g,ρ (.global g)=.pointer (some ⟨g,0,none⟩)
 old:∀t,(l.all fun p=>p.dst != some t)=true→ρ (.tmp t)=a0.tmps.getD t undef
 fact:∀(j:Nat) d,(depsOf o).contains j=true→(l[j]?).bind (·.dst)=some d→WasR R (F j) (ρ (.tmp d)) W
structure ObR (R:World→World→Prop) (P:Program) (l:List Oper) (F:Nat→Value→World→Prop) (a0:Act) (w0:World) (i:Nat) (o:Oper):Prop where
 run:∀(ρ:Operand→Value) (W:World),KnowR R l F a0 w0 o ρ W →
  (
   match o.guard with
   | none=>OpOut P o ρ W (fun v w'=>R W w'∧F i v w')
   | some (g,want)=>∃d,(l[g]?).bind (·.dst)=some d∧((∃b,ρ (.tmp d)=.bool b∧(b=want→OpOut P o ρ W (fun v w'=>R W w'∧F i v w'))∧(b≠want→F i undef W))∨(ρ (.tmp d)=undef∧F i undef W)))
def ObsR (R:World→World→Prop) (P:Program) (l:List Oper) (F:Nat→Value→World→Prop) (a0:Act) (w0:World):List Oper→Nat→Prop
 | [],_=>True
 | o::r,i=>ObR R P l F a0 w0 i o∧ObsR R P l F a0 w0 r (i+1)
theorem obsR_at {R:World→World→Prop} {P:Program} {L:List Oper} {F:Nat→Value→World→Prop} {a0:Act} {w0:World}:∀(l:List Oper) (k:Nat),ObsR R P L F a0 w0 l k→∀(i:Nat) o,l[i]?=some o→ObR R P L F a0 w0 (k+i) o:=by
 intro l
 induction l with
 | nil=>intro k _ i o h;simp at h
 | cons o r ih =>
  intro k h i p hp
  cases i with
  | zero =>
   have hpo:o=p:=by simpa using hp
   subst hpo
   exact h.1
  | succ i =>
   have:=ih (k+1) h.2 i p (by simpa using hp)
   rw[show k+1+i=k+(i+1)from by omega]at this
   exact this
def okB (n:Nat):List Oper→Nat→Bool
 | [],_=>true
 | o::r,i=>(match o.dst with|some d=>decide (d<n)&&r.all (fun p=>p.dst != some d)|none=>false)&&o.after.all (fun e=>!Region.binds .any e||decide (e.on<i))&&okB n r (i+1)
section
variable {P:Program} {ops:Array Oper}
theorem put_get (a:Act) (d:Tmp) (v:Value) (h:d<a.tmps.size):(a.put (some d) v).tmps[d]?=some v:=by
 simp[Act.put,h]
theorem put_get_ne (a:Act) (o:Option Tmp) (v:Value) (t:Tmp) (h:o≠some t):(a.put o v).tmps[t]?=a.tmps[t]?:=by
 cases o with
 | none=>rfl
 | some d =>
  have hne:d≠t:=fun e=>h (by rw[e])
  simp[Act.put,Array.getElem?_setIfInBounds_ne hne]
theorem put_size (a:Act) (o:Option Tmp) (v:Value):(a.put o v).tmps.size=a.tmps.size:=by cases o<;>simp[Act.put]
theorem put_df (a:Act) (o:Option Tmp) (v:Value):(a.put o v).defers=a.defers:=by cases o<;>rfl
theorem fill_other (t:Tmp):∀(l:List Oper) (k:Nat) (vs:Nat→Value) (a:Act),(∀o,o∈l→o.dst≠some t)→(fillL l k vs a).tmps[t]?=a.tmps[t]?:=by
 intro l
 induction l with
 | nil=>intro k vs a _;rfl
 | cons o r ih =>
  intro k vs a h
  rw[fillL,ih _ _ _ (fun p hp=>h p (List.mem_cons_of_mem _ hp)),put_get_ne _ _ _ _ (h o (List.mem_cons_self ..))]
theorem fill_df:∀(l:List Oper) (k:Nat) (vs:Nat→Value) (a:Act),(fillL l k vs a).defers=a.defers:=by
 intro l
 induction l with
 | nil=>intro k vs a;rfl
 | cons o r ih=>intro k vs a;rw[fillL,ih,put_df]
structure MidR (R:World→World→Prop) (l:List Oper) (F:Nat→Value→World→Prop) (a0:Act) (w0:World) (listed:Array Bool) (a:Act) (w:World):Prop where
 size:listed.size=l.length
 df:a.defers=a0.defers
 tsize:a.tmps.size=a0.tmps.size
 below:R w0 w
 old:∀t,(∀(i:Nat) o,l[i]?=some o→listed[i]?=some true→o.dst≠some t)→a.tmps[t]?=a0.tmps[t]?
 facts:∀(i:Nat) o,l[i]?=some o→listed[i]?=some true→∃d v,o.dst=some d∧a.tmps[d]?=some v∧WasR R (F i) v w
theorem WasR.more {R:World→World→Prop} (hR:IsExt R) {F:Value→World→Prop} {v:Value} {w w':World} (h:WasR R F v w) (hb:R w w'):WasR R F v w' :=
 let ⟨w1,h1,h2⟩:=h
 ⟨w1,hR.trans h1 hb,h2⟩
theorem step_ob {R:World→World→Prop} (hR:IsExt R) {Q:Exit→Act→World→Prop} {l:List Oper} {F:Nat→Value→World→Prop} {a0:Act} {w0:World} {i:Nat} {o:Oper} {d:Tmp} {a:Act} {W:World} {K:Act→World→Prop}
  (hops:∀i:Nat,ops[i]?=l[i]?) (ho:ops[i]?=some o) (hd:o.dst=some d) (h:ObR R P l F a0 w0 i o) (hk:KnowR R l F a0 w0 o a.eval W) (hK:∀v w',R W w'→F i v w'→K (a.put (some d) v) w'):wpOp P ops Q i K a W:=by
 have hout:OpOut P o a.eval W (fun v w'=>R W w'∧F i v w')→o.wp P a W K Q:=by
  intro⟨h⟩
  unfold Oper.wp
  generalize (execOp a.eval o).run P W=r at h ⊢
  cases r with
  | ok n w' =>
   cases n with
   | value v=>simp only[Oper.upon,hd]at h ⊢;exact hK v w' h.1 h.2
   | skip=>simp only[Oper.upon,hd]at h ⊢;exact hK undef w' h.1 h.2
   | enter f args =>
    simp only[Oper.upon,hd]at h ⊢
    refine Calls.mono h fun e w'' hh=>?_
    obtain⟨v,rfl,h1,h2⟩:=hh
    exact hK v w'' h1 h2
   | _=>exact h.elim
  | halt x w'=>exact h.elim
 unfold wpOp
 simp only[ho]
 have h:=h.run a.eval W hk
 cases hg:o.guard with
 | none =>
  rw[hg]at h
  have hw:Region.wanted o (yielded ops a.tmps)=true:=by simp[Region.wanted,hg]
  rw[if_pos hw]
  exact .inl (hout h)
 | some gw =>
  obtain⟨g,want⟩:=gw
  rw[hg]at h
  obtain⟨dg,h1,⟨b,h2,h3,h4⟩|⟨h2,h4⟩⟩:=h
  rotate_left
  ·have hy:yielded ops a.tmps g≠some want:=by
    unfold yielded
    rw[hops g,h1]
    have h2':a.tmps.getD dg undef=undef:=h2
    rw[Array.getD_eq_getD_getElem?]at h2'
    cases hx:a.tmps[dg]? with
    | none=>simp[hx]
    | some u =>
     rw[hx]at h2'
     simp only[Option.getD_some]at h2'
     subst h2'
     simp[hx,undef]
   have hw:Region.wanted o (yielded ops a.tmps)=false:=by simpa [Region.wanted,hg]using hy
   rw[hw,if_neg (by simp),hd]
   exact hK undef W (hR.refl _) h4
  have hy:yielded ops a.tmps g=some b:=by
   unfold yielded
   rw[hops g,h1]
   have h2':a.tmps.getD dg undef=.bool b:=h2
   rw[Array.getD_eq_getD_getElem?]at h2'
   cases hx:a.tmps[dg]? with
   | none=>rw[hx]at h2';simp[undef]at h2'
   | some u=>rw[hx]at h2';simp only[Option.getD_some]at h2';subst h2';simp[hx]
  have hw:Region.wanted o (yielded ops a.tmps)=(some b==some want):=by simp[Region.wanted,hg,hy]
  rw[hw]
  by_cases hb:b=want
  ·subst hb
   rw[if_pos (by simp)]
   exact .inl (hout (h3 rfl))
  ·rw[if_neg (by simpa using hb),hd]
   exact hK undef W (hR.refl _) (h4 hb)
theorem okB_at {n:Nat}:∀(l:List Oper) (k:Nat),okB n l k=true→∀(i:Nat) o,l[i]?=some o →
  (∃d,o.dst=some d∧d<n∧∀(j:Nat) p,l[j]?=some p→i<j→p.dst≠some d)∧(∀j,j∈depsOf o→j<k+i):=by
 intro l
 induction l with
 | nil=>intro k _ i o h;simp at h
 | cons o r ih =>
  intro k hk i p hp
  simp only[okB,Bool.and_eq_true]at hk
  obtain⟨⟨h1,h3⟩,h5⟩:=hk
  cases i with
  | succ i =>
   obtain⟨⟨d,a1,a2,a3⟩,c⟩:=ih (k+1) h5 i p (by simpa using hp)
   refine⟨⟨d,a1,a2,fun j q hq hj=>?_⟩,fun j hj=>by have:=c j hj;omega⟩
   cases j with
   | zero=>omega
   | succ j=>exact a3 j q (by simpa using hq) (by omega)
  | zero =>
   have hpo:o=p:=by simpa using hp
   subst hpo
   cases hdst:o.dst with
   | none=>rw[hdst]at h1;exact nomatch h1
   | some d =>
    rw[hdst]at h1
    simp only[Bool.and_eq_true,decide_eq_true_eq,List.all_eq_true]at h1
    obtain⟨g1,g2⟩:=h1
    refine⟨⟨d,rfl,g1,fun j q hq hj=>?_⟩,fun j hj=>?_⟩
    ·cases j with
     | zero=>omega
     | succ j =>
      have:=g2 q (List.mem_of_getElem? (by simpa using hq))
      simpa using this
    ·obtain⟨e,he,rfl⟩:=List.mem_map.1 hj
     obtain⟨he1,he2⟩:=List.mem_filter.1 he
     have:=Array.all_eq_true'.1 h3 e (by simpa using he1)
     simp only[Bool.or_eq_true,Bool.not_eq_true',decide_eq_true_eq]at this
     rcases this with h|h
     ·rw[h]at he2;exact nomatch he2
     ·omega
theorem fill_at (a0:Act) (vs:Nat→Value):∀(l:List Oper) (k i:Nat) (o:Oper) (d:Tmp),l[i]?=some o→o.dst=some d→d<a0.tmps.size→(∀(j:Nat) p,l[j]?=some p→i<j→p.dst≠some d)→(fillL l k vs a0).tmps[d]?=some (vs (k+i)):=by
 intro l
 induction l generalizing a0 with
 | nil=>intro k i o d h;simp at h
 | cons q r ih =>
  intro k i o d h hd hlt hdis
  cases i with
  | zero =>
   have hpo:q=o:=by simpa using h
   subst hpo
   rw[fillL,fill_other d _ _ _ _ (fun p hp=>by
    obtain⟨j,hj,hjp⟩:=List.getElem_of_mem hp
    exact hdis (j+1) p (by simpa [List.getElem?_eq_getElem hj]using hjp) (by omega)),hd,put_get _ _ _ hlt]
   rfl
  | succ i =>
   rw[fillL,ih _ (k+1) i o d (by simpa using h) hd (by rw[put_size];exact hlt) (fun j p hp hj=>hdis (j+1) p (by simpa using hp) (by omega))]
   rw[show k+1+i=k+(i+1)from by omega]
theorem any_of_mid {R:World→World→Prop} (hR:IsExt R) {Q:Exit→Act→World→Prop} {l:List Oper} {F:Nat→Value→World→Prop} {a0:Act} {w0:World} (hops:ops=l.toArray) (hok:okB a0.tmps.size l 0=true)
  (hobs:ObsR R P l F a0 w0 l 0)
  (hend:∀(vs:Nat→Value) (W:World),R w0 W→(∀i,i<l.length→WasR R (F i) (vs i) W)→Q .normal (fillL l 0 vs a0) W) :
  ∀(fuel:Nat) (listed:Array Bool) (a:Act) (w:World),MidR R l F a0 w0 listed a w→(listed.toList.count false≤fuel)→wpAny P .any ops Q fuel listed a w:=by
 have hsz:ops.size=l.length:=by rw[hops];simp
 have hget:∀(i:Nat),ops[i]?=l[i]?:=fun i=>by rw[hops];simp
 have fin:∀(listed:Array Bool) (a:Act) (w:World),MidR R l F a0 w0 listed a w→Region.ready .any ops listed=[]→Q .normal a w:=by
  intro listed a w hM hr
  have hall:∀(i:Nat),i<l.length→listed[i]?=some true:=by
   intro i
   induction i using Nat.strongRecOn with
   | ind i ih =>
    intro hi
    have hli:l[i]?=some l[i]:=List.getElem?_eq_getElem hi
    obtain⟨_,hdep⟩:=okB_at l 0 hok i _ hli
    have hls:i<listed.size:=by rw[hM.size];exact hi
    cases hv:listed[i] with
    | true=>rw[Array.getElem?_eq_getElem hls,hv]
    | false =>
     exfalso
     have hmem:i∈Region.ready .any ops listed:=by
      unfold Region.ready
      refine List.mem_filter.2 ⟨List.mem_range.2 (by rw[hsz];exact hi),?_⟩
      have h1:listed.getD i true=false:=by simp[Array.getD,hls,hv]
      rw[h1,hget i,hli]
      simp only[Bool.not_false,Bool.true_and,Option.map_some,Option.getD_some]
      rw[Array.all_eq_true']
      intro e he
      cases hbn:Region.binds .any e with
      | false=>rfl
      | true =>
       have hj:e.on∈depsOf l[i]:=List.mem_map.2 ⟨e,List.mem_filter.2 ⟨by simpa using he,hbn⟩,rfl⟩
       have hlt:=hdep _ hj
       have:=ih e.on (by omega) (by omega)
       simp[Array.getD_eq_getD_getElem?,this]
     rw[hr]at hmem
     cases hmem
  have key:a=fillL l 0 (fun i=>a.tmps.getD (((l[i]?).bind (·.dst)).getD 0) undef) a0:=by
   obtain⟨at_,ad⟩:=a
   have hdf:=hM.df
   simp only at hdf
   have e2:=fill_df l 0 (fun i=>at_.getD (((l[i]?).bind (·.dst)).getD 0) undef) a0
   suffices hh:at_=(fillL l 0 (fun i=>at_.getD (((l[i]?).bind (·.dst)).getD 0) undef) a0).tmps by
    cases hf:fillL l 0 (fun i=>at_.getD (((l[i]?).bind (·.dst)).getD 0) undef) a0 with
    | mk t dd =>
     rw[hf]at hh e2
     simp only at hh e2
     rw[hdf,←e2,←hh]
   apply Array.ext_getElem?
   intro t
   by_cases hx:∃(i:Nat) (o:Oper),l[i]?=some o∧o.dst=some t
   ·obtain⟨i,o,hi,hd⟩:=hx
    obtain⟨⟨d,h1,h2,h3⟩,_⟩:=okB_at l 0 hok i o hi
    rw[hd]at h1
    injection h1 with h1
    subst h1
    rw[fill_at a0 _ l 0 i o t hi hd h2 h3,Nat.zero_add,hi]
    obtain⟨d',v,g1,g2,_⟩:=hM.facts i o hi (hall i (List.getElem?_eq_some_iff.1 hi).1)
    rw[hd]at g1
    injection g1 with g1
    subst g1
    simp only at g2
    rw[g2]
    simp[hd,Array.getD_eq_getD_getElem?,g2]
   ·rw[fill_other t l 0 _ a0 (fun o ho hd=>by
     obtain⟨i,hi,hio⟩:=List.getElem_of_mem ho
     exact hx ⟨i,o,by rw[List.getElem?_eq_getElem hi,hio],hd⟩)]
    exact hM.old t (fun i o hi _ hd=>hx ⟨i,o,hi,hd⟩)
  rw[key]
  refine hend _ w hM.below fun i hi=>?_
  have hli:l[i]?=some l[i]:=List.getElem?_eq_getElem hi
  obtain⟨d,v,g1,g2,g3⟩:=hM.facts i _ hli (hall i hi)
  rw[hli]
  simp only[Option.bind_some,g1,Option.getD_some,Array.getD_eq_getD_getElem?,g2]
  exact g3
 intro fuel
 induction fuel with
 | zero =>
  intro listed a w hM hc
  have hr:Region.ready .any ops listed=[]:=by
   apply List.eq_nil_iff_forall_not_mem.2
   intro i hi
   obtain⟨h1,h2⟩:=List.mem_filter.1 hi
   have hlt:i<listed.size:=by rw[hM.size,←hsz];exact List.mem_range.1 h1
   simp only[Bool.and_eq_true,Bool.not_eq_true']at h2
   have hf:listed[i]=false:=by have:=h2.1;simpa [Array.getD,hlt]using this
   have:0<listed.toList.count false:=List.count_pos_iff.2 (by rw[←hf];simp)
   omega
  exact⟨hr,fin listed a w hM hr⟩
 | succ fuel ih =>
  intro listed a w hM hc
  refine⟨fin listed a w hM,fun i hi=>?_⟩
  obtain⟨h1,h2⟩:=List.mem_filter.1 hi
  have hlt:i<l.length:=by rw[←hsz];exact List.mem_range.1 h1
  have hlts:i<listed.size:=by rw[hM.size];exact hlt
  have hli:l[i]?=some l[i]:=List.getElem?_eq_getElem hlt
  rw[hget i,hli]at h2
  simp only[Bool.and_eq_true,Bool.not_eq_true',Option.map_some,Option.getD_some]at h2
  obtain⟨hun,hdeps⟩:=h2
  have hunf:listed[i]=false:=by simpa [Array.getD,hlts]using hun
  obtain⟨⟨d,hd,hdn,hdis⟩,hdep⟩:=okB_at l 0 hok i _ hli
  have hdl:∀j,j∈depsOf l[i]→listed[j]?=some true:=by
   intro j hj
   obtain⟨e,he,rfl⟩:=List.mem_map.1 hj
   obtain⟨he1,he2⟩:=List.mem_filter.1 he
   have:=Array.all_eq_true'.1 hdeps e (by simpa using he1)
   rw[he2]at this
   simp only[Bool.not_true,Bool.false_or]at this
   rw[Array.getD_eq_getD_getElem?]at this
   cases hx:listed[e.on]? with
   | none=>rw[hx]at this;simp at this
   | some b=>rw[hx]at this;simp at this;rw[this]
  have hob:=obsR_at l 0 hobs i _ hli
  rw[Nat.zero_add]at hob
  have hknow:KnowR R l F a0 w0 l[i] a.eval w:=by
   refine⟨hM.below,fun v=>rfl,fun f=>rfl,fun g=>rfl,fun t ht=>?_,fun j d' hj hjd=>?_⟩
   ·have:=hM.old t (fun j o hj _ hdj=>by
     have:=List.all_eq_true.1 ht o (List.mem_of_getElem? hj)
     rw[hdj]at this
     simp at this)
    show a.tmps.getD t undef=_
    rw[Array.getD_eq_getD_getElem?,this,Array.getD_eq_getD_getElem?]
   ·have hj':j∈depsOf l[i]:=by simpa using hj
    have hlj:=hdl j hj'
    have hjl:j<l.length:=by have:=hdep j hj';omega
    obtain⟨d2,v,g1,g2,g3⟩:=hM.facts j _ (List.getElem?_eq_getElem hjl) hlj
    rw[List.getElem?_eq_getElem hjl,Option.bind_some,g1]at hjd
    injection hjd with hjd
    subst hjd
    show WasR R (F j) (a.tmps.getD d2 undef) w
    rw[Array.getD_eq_getD_getElem?,g2]
    exact g3
  refine step_ob hR hget (by rw[hget];exact hli) hd hob hknow fun v w' hb hF=>ih _ _ _ ?_ ?_
  ·have hset:∀(j:Nat),(listed.setIfInBounds i true)[j]?=some true→j=i∨listed[j]?=some true:=by
    intro j hj
    by_cases hji:j=i
    ·exact .inl hji
    ·right
     rw[Array.getElem?_setIfInBounds_ne (fun e=>hji e.symm)]at hj
     exact hj
   refine⟨by simp[hM.size],by rw[put_df];exact hM.df,by rw[put_size];exact hM.tsize,hR.trans hM.below hb,fun t ht=>?_,fun j o hj hlj=>?_⟩
   ·rw[put_get_ne _ _ _ _ (fun e=>?_)]
    ·refine hM.old t fun j o hj hlj=>ht j o hj ?_
     by_cases hji:j=i
     ·subst hji
      simp[hlts]
     ·rw[Array.getElem?_setIfInBounds_ne (fun e=>hji e.symm)];exact hlj
    ·exact ht i _ hli (by simp[hlts]) (hd.trans e)
   ·by_cases hji:j=i
    ·subst hji
     rw[hli]at hj
     injection hj with hj
     subst hj
     exact⟨d,v,hd,put_get _ _ _ (by rw[hM.tsize];exact hdn),w',hR.refl _,hF⟩
    ·have hlj':=(hset j hlj).resolve_left hji
     obtain⟨d',v',g1,g2,g3⟩:=hM.facts j o hj hlj'
     refine⟨d',v',g1,?_,g3.more hR hb⟩
     rw[put_get_ne _ _ _ _ (fun e=>?_)]
     ·exact g2
     ·injection e with e
      subst e
      obtain⟨⟨d2,q1,_,q3⟩,_⟩:=okB_at l 0 hok j o hj
      rw[g1]at q1
      injection q1 with q1
      subst q1
      rcases Nat.lt_or_gt_of_ne hji with hh|hh
      ·exact q3 i _ hli hh hd
      ·exact hdis j o hj hh g1
  ·have hlen:i<listed.toList.length:=by simpa using hlts
   have hcnt:(listed.setIfInBounds i true).toList.count false+1=listed.toList.count false:=by
    rw[Array.toList_setIfInBounds,List.count_set hlen]
    have h3:listed.toList[i]=false:=by simpa using hunf
    rw[h3]
    have hpos:0<listed.toList.count false:=List.count_pos_iff.2 (by rw[←h3];exact List.getElem_mem hlen)
    rw[if_pos (by decide),if_neg (by decide)]
    omega
   omega
section
variable {o:Oper} {ρ:Operand→Value} {W:World} {post:Value→World→Prop}
theorem OpOut.move (x:Operand) (ho:o.op=.move x) (h:post (ρ x) W):OpOut P o ρ W post:=⟨by unfold execOp;rw[ho];exact h⟩
theorem OpOut.assign (x:Operand) (ho:o.op=.assign x) (h:post (ρ x) W):OpOut P o ρ W post:=⟨by unfold execOp;rw[ho];exact h⟩
theorem OpOut.conv {src dst:TypeId} {x:Operand} {v:Value} (ho:o.op=.convert src dst x) (hr:(convert src dst (ρ x)).run P W=.ok v W) (h:post v W):OpOut P o ρ W post :=
 ⟨by unfold execOp;rw[ho];simp only[Sem.run_bind,Sem.run_pure,hr,Result.andThen_ok];exact h⟩
theorem OpOut.bin {op:BinOp} {t t2:TypeId} {x y:Operand} {v:Value} (ho:o.op=.binOp op t x y t2) (hg:(eqGuard op t x y (ρ x) (ρ y)).run P W=.ok () W) (hr:(binOp op t (ρ x) (ρ y)).run P W=.ok v W) (h:post v W):OpOut P o ρ W post :=
 ⟨by unfold execOp;rw[ho];simp only[Sem.run_bind,Sem.run_pure,hg,hr,Result.andThen_ok];exact h⟩
theorem OpOut.fn {f:FuncId} {fn:Func} {xs:Array Operand} {ts:Array TypeId} {args:Array Value} (ho:o.op=.call { callee:=.value (.func f),args:=xs,argTypes:=ts }) (hf:ρ (.func f)=.func (.func f) #[] #[]) (ha:xs.map ρ=args)
  (h1:P.funcs[f]?=some fn) (h2:(fn.name == "runtime.NumGoroutine")=false) (h3:fn.body.isNone=false) (hc:Calls P f args W (fun e w''=>∃v,e=.returned v∧post v w'')):OpOut P o ρ W post :=
 OpOut.call (f:=f) (args:=args) (by
  have hcf:(callFunc f args).run P W=.ok (.enter f args) W:=by
   unfold callFunc
   have h2':¬fn.name = "runtime.NumGoroutine":=by simpa using h2
   have h3':¬fn.body=none:=fun e=>by rw[e]at h3;cases h3
   simp[h1,h2',h3']
  unfold execOp
  rw[ho]
  simp[resolve,hf,ha,Deferred.ofValue,invoke,hcf]) hc
end
end
def grew (a b:World):Prop:=Below a.heap.size a b
theorem grew_ext:IsExt grew:=⟨fun _=>Below.refl _ _,fun {_ _ _} h k=>Below.trans h (k.mono h.size),fun _=>(Below.refl _ _).drew⟩
structure Only (S:List Nat) (w w':World):Prop where
 os:w'.os=w.os
 tape:w'.tape=w.tape
 output:w'.output=w.output
 size:w.heap.size≤w'.heap.size
 block:∀k,k<w.heap.size→k∉S→w'.heap[k]?=w.heap[k]?
theorem Only.refl (S:List Nat) (w:World):Only S w w:=⟨rfl,rfl,rfl,Nat.le_refl _,fun _ _ _=>rfl⟩
theorem Only.trans {S:List Nat} {a b c:World} (h:Only S a b) (k:Only S b c):Only S a c :=
 ⟨k.os.trans h.os,k.tape.trans h.tape,k.output.trans h.output,Nat.le_trans h.size k.size,fun i hi hn=>(k.block i (Nat.lt_of_lt_of_le hi h.size) hn).trans (h.block i hi hn)⟩
theorem Only.drew (S:List Nat) (w:World):Only S w w.drew:=⟨rfl,rfl,rfl,Nat.le_refl _,fun _ _ _=>rfl⟩
theorem Only.ext (S:List Nat):IsExt (Only S):=⟨Only.refl S,fun {_ _ _} h k=>h.trans k,Only.drew S⟩
theorem Only.more {S S':List Nat} {a b:World} (h:Only S a b) (hs:∀x,x∈S→x∈S'):Only S' a b:=⟨h.os,h.tape,h.output,h.size,fun k hk hn=>h.block k hk fun hx=>hn (hs k hx)⟩
theorem Only.of_below {S:List Nat} {a b:World} (h:Below a.heap.size a b):Only S a b:=⟨h.os,h.tape,h.output,h.size,fun k hk _=>h.block k hk⟩
theorem Only.below {S:List Nat} {a b:World} (h:Only S a b) {B:Nat} (hB:B≤a.heap.size) (hs:∀x,x∈S→B≤x):Below B a b :=
 ⟨h.os,h.tape,h.output,h.size,fun k hk=>h.block k (Nat.lt_of_lt_of_le hk hB) fun hx=>by have:=hs k hx;omega⟩
theorem Only.setCell {S:List Nat} (w:World) {p:Addr} (hp:p.block∈S) (u:Value):Only S w (w.setCell p u) :=
 ⟨rfl,rfl,rfl,by simp[World.setCell],fun k _ hn=>Below.heap_setCell w p u k (fun e=>hn (by rw[e];exact hp))⟩
theorem Only.alloc (S:List Nat) (w:World) (o:Obj):Only S w (w.alloc o):=⟨rfl,rfl,rfl,by simp,fun k hk _=>Below.heap_alloc w o k hk⟩
def factsOf (L:List (Value→World→Prop)):Nat→Value→World→Prop:=fun i=>L.getD i (fun _ _=>True)
def Tb (b:Bool):Value:=.bool b
def OwnTb (w:World) (base:Nat) (v:Value) (bs:List Bool):Prop:=w.ownsRow base 4 1 v bs.length (bs.map Tb)
theorem OwnTb.push {w:World} {base:Nat} {v:Value} {bs:List Bool} {b:Bool} (h:w.ownsRow base 4 1 v (bs.length+1) (bs.map Tb++[Tb b])):OwnTb w base v (bs++[b]) :=
 own_cast h (by simp) (by simp)
theorem OwnTb.cast {w:World} {base:Nat} {v:Value} {bs bs':List Bool} (h:OwnTb w base v bs) (e:bs=bs'):OwnTb w base v bs':=e▸h
def IsRow (k:IntKind) (w:World) (a:Option Addr) (len cap:Nat) (zs:List Int):Prop :=
 (a=none∧len=0∧cap=0∧zs=[]) ∨
 ∃x,a=some x∧len≤cap∧cap≤maxLen∧zs.length=cap∧(∀i,i<zs.length→w.cell? (x.add i)=some (.int k (zs.getD i 0)))∧∀n∈zs,(Lit.int k n).wf=true
theorem IsRow.ints {k:IntKind} {w:World} {a:Option Addr} {len cap:Nat} {zs:List Int} (h:IsRow k w a len cap zs) :
  ∃ys:List Int,ys.length=len∧Reads w w.heap.size 1 a ys.length (ys.map (Value.int k))∧len≤cap∧cap≤maxLen∧∀n∈ys,(Lit.int k n).wf=true:=by
 rcases h with ⟨rfl,rfl,rfl,rfl⟩|⟨x,rfl,hl,hm,hz,hc,hw⟩
 ·exact⟨[],rfl,Reads.none_,Nat.le_refl _,by unfold maxLen;omega,by simp⟩
 ·refine⟨zs.take len,by rw[List.length_take];omega,⟨by simp,fun hn=>⟨x,rfl,?_,fun j u hu=>?_⟩⟩,hl,hm,fun n hn=>hw n (List.mem_of_mem_take hn)⟩
  ·have h0:=hc 0 (by rw[List.length_take]at hn;omega)
   have:=World.block_lt_of_cell? w _ h0
   rw[block_of_add]at this
   exact this
  ·rw[List.getElem?_map,List.getElem?_take]at hu
   split at hu
   ·rename_i hj
    have hjz:j<zs.length:=by omega
    rw[hc j hjz]
    rw[List.getElem?_eq_getElem hjz]at hu
    rw[List.getD_eq_getElem?_getD,List.getElem?_eq_getElem hjz]
    exact hu
   ·cases hu
theorem IsRow.bytes {w:World} {a:Option Addr} {len cap:Nat} {zs:List Int} (h:IsRow .u8 w a len cap zs) :
  ∃bs:List UInt8,bs.length=len∧Reads w w.heap.size 1 a bs.length (bs.map B)∧bs.length≤cap∧cap≤maxLen:=by
 obtain⟨ys,hl,hr,h1,h2,h3⟩:=h.ints
 refine⟨ys.map fun n=>UInt8.ofNat n.toNat,by rw[List.length_map];exact hl,?_,by rw[List.length_map];omega,h2⟩
 rw[List.length_map]
 have:(ys.map fun n=>UInt8.ofNat n.toNat).map B=ys.map (Value.int .u8):=by
  rw[List.map_map]
  refine List.map_congr_left fun n hn=>?_
  have hb:=h3 n hn
  have hb2:0≤n∧n≤255:=by simpa [Lit.wf,IntKind.min,IntKind.max,IntKind.signed,IntKind.bits]using hb
  have:=B_ofNat n.toNat (by omega)
  rw[show ((n.toNat:Nat):Int)=n from by omega]at this
  exact this.symm
 rw[this]
 exact hr
def rbyteN (a i:Nat):UInt8:=UInt8.ofNat (a/2^(8*i)%256)
def rbytesN (a n:Nat):List UInt8:=(List.range n).map (rbyteN a)
def rwordN:List UInt8→Nat
 | []=>0
 | b::r=>b.toNat+256*rwordN r
theorem rbytesN_len (a n:Nat):(rbytesN a n).length=n:=by simp[rbytesN]
theorem rrun_make_one {P:Program} {t e:TypeId} {i:TypeInfo} {z:Value} (w:World) (ht:P.underlying t=some (.slice e)) (hi:P.info? e=some i) (hz:i.zero=some z) (hs:i.size=1) (h1:z.cells=#[z]) (hb:i.bytes≤1000) (n:Nat) (hn:n≤1000000) :
  (Instr.makeSlice t (.int .i64 n) (.int .i64 n)).run P w=.ok (.slice (some ⟨w.heap.size,0,none⟩) n n) (w.alloc (.cells (Array.replicate n z) e)):=by
 have hbn:(i.bytes:Int)*(n:Int)≤1000*1000000:=Int.mul_le_mul (by omega) (by omega) (by omega) (by omega)
 have hr:=run_make (P:=P) w t e i z ht hi hz .i64 .i64 n n (by omega) (Int.le_refl _) (by omega) (by omega)
 rw[hr]
 simp only[Int.toNat_natCast,hs,Nat.mul_one,h1]
 congr 3
 apply Array.toList_inj.1
 rw[toList_madeCells_one]
 simp
theorem rmake_u8 (w:World) (n:Nat) (hn:n≤1000000):(Instr.makeSlice 48 (.int .i64 n) (.int .i64 n)).run Tryz.prog w=.ok (.slice (some ⟨w.heap.size,0,none⟩) n n) (w.alloc (.cells (Array.replicate n (.int .u8 0)) 5)):=by
 cases h:Tryz.prog.info? 5 with
 | none=>exact absurd h (by decide +kernel)
 | some i =>
  have hh:(Tryz.prog.info? 5).map (fun i=>(i.zero,i.size,i.bytes))=some (some (.int .u8 0),1,1):=by kernel_rfl
  rw[h]at hh
  simp only[Option.map_some,Option.some.injEq,Prod.mk.injEq]at hh
  exact rrun_make_one w Tryz.underlying48 h hh.1 hh.2.1 rfl (by omega) n hn
theorem rwordN_append:∀(a:List UInt8) (b:UInt8),rwordN (a++[b])=rwordN a+2^(8*a.length)*b.toNat
 | [],b=>by simp[rwordN]
 | x::a,b=>by
  rw[List.cons_append,rwordN,rwordN_append a b,rwordN,List.length_cons,Nat.mul_succ,Nat.pow_add,Nat.mul_add,←Nat.mul_assoc,show (2:Nat)^8=256 from rfl,Nat.mul_comm 256 (2^_)]
  omega
theorem rwordN_lt:∀(a:List UInt8),rwordN a<2^(8*a.length)
 | []=>by simp[rwordN]
 | x::a=>by
  have:=rwordN_lt a
  have hx:=x.toNat_lt
  rw[rwordN,List.length_cons,Nat.mul_succ,Nat.pow_add,show (2:Nat)^8=256 from rfl]
  omega
theorem rwordN_take {l:List UInt8} {k:Nat} {b:UInt8} (h:l[k]?=some b):rwordN (l.take (k+1))=rwordN (l.take k)+2^(8*k)*b.toNat:=by
 obtain⟨hk,hv⟩:=List.getElem?_eq_some_iff.1 h
 rw[List.take_succ_eq_append_getElem hk,rwordN_append,hv,List.length_take,Nat.min_eq_left (by omega)]
theorem rpow8_le (k:Nat) (h:k≤8):(2:Nat)^(8*k)≤2^64:=Nat.pow_le_pow_right (by omega) (by omega)
theorem ror_word (acc c k:Nat) (hk:k<8) (ha:acc<2^(8*k)) (hc:c<256) :
  bits .or .u64 (acc:Int) (IntKind.u64.wrap ((c:Int)*2^(8*k)))=((acc+2^(8*k)*c:Nat):Int):=by
 have h8:2^(8*(k+1))≤2^64:=rpow8_le (k+1) (by omega)
 rw[Nat.mul_succ,Nat.pow_add,show (2:Nat)^8=256 from rfl]at h8
 have hm:c*2^(8*k)<2^64:=Nat.lt_of_lt_of_le (by
  rw[Nat.mul_comm]
  exact Nat.mul_lt_mul_of_pos_left hc (Nat.two_pow_pos _)) h8
 have hcast:(c:Int)*2^(8*k)=((c*2^(8*k):Nat):Int):=by rw[Int.natCast_mul,Int.natCast_pow];rfl
 have hlt:acc<2^64:=Nat.lt_of_lt_of_le ha (rpow8_le k (by omega))
 have hw:IntKind.u64.wrap ((c*2^(8*k):Nat):Int)=((c*2^(8*k):Nat):Int):=by
  rw[IntKind.wrap_u64]
  simp only[Nat.reducePow]at hm
  omega
 rw[hcast,hw]
 simp only[Nat.reducePow]at hlt hm
 rw[u64_or_nat _ _ hlt hm]
 congr 1
 rw[←Nat.shiftLeft_eq,Nat.or_comm,←Nat.shiftLeft_add_eq_or_of_lt ha,Nat.shiftLeft_eq,Nat.mul_comm]
 omega
def setB (bs:List UInt8) (i:Nat) (l:List UInt8):List UInt8:=bs.take i++(l++bs.drop (i+l.length))
theorem setB_len {bs l:List UInt8} {i:Nat} (h:i+l.length≤bs.length):(setB bs i l).length=bs.length:=by
 unfold setB
 rw[List.length_append,List.length_append,List.length_take,List.length_drop]
 omega
structure Jmp where
 dest:Nat
 keep:Nat
 h:Nat
end Go.Proofs.YtomppgohoplemaaGreat
