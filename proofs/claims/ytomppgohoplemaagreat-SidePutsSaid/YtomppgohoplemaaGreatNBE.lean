import Derived.Test.YtomppgohoplemaaGreatNAF
namespace Go.Proofs.YtomppgohoplemaaGreat
open Go.RowKit
structure ObG (R:World→World→Prop) (P:Program) (l:List Oper) (F:Nat→Value→World→Prop) (a0:Act) (w0:World) (c1 c2:Nat) (G:Value→Value→World→Prop) (i:Nat) (o:Oper):Prop where
 run:∀(ρ:Operand→Value) (W:World),KnowR R l F a0 w0 o ρ W →
  ((depsOf o).contains c1=true→(depsOf o).contains c2=true→∀d1 d2,(l[c1]?).bind (·.dst)=some d1→(l[c2]?).bind (·.dst)=some d2→G (ρ (.tmp d1)) (ρ (.tmp d2)) W) →
  OpOut P o ρ W (fun v w'=>R W w'∧F i v w'∧((i=c1→∀v2,WasR R (F c2) v2 W→G v v2 w')∧(i=c2→∀v1,WasR R (F c1) v1 W→G v1 v w')))
def ObsG (R:World→World→Prop) (P:Program) (l:List Oper) (F:Nat→Value→World→Prop) (a0:Act) (w0:World) (c1 c2:Nat) (G:Value→Value→World→Prop):List Oper→Nat→Prop
 | [],_=>True
 | o::r,i=>ObG R P l F a0 w0 c1 c2 G i o∧ObsG R P l F a0 w0 c1 c2 G r (i+1)
theorem obsG_at {R:World→World→Prop} {P:Program} {L:List Oper} {F:Nat→Value→World→Prop} {a0:Act} {w0:World} {c1 c2:Nat} {G:Value→Value→World→Prop}:∀(l:List Oper) (k:Nat),ObsG R P L F a0 w0 c1 c2 G l k→∀(i:Nat) o,l[i]?=some o→ObG R P L F a0 w0 c1 c2 G (k+i) o:=by
 intro l
 induction l with
 | nil=>intro k _ i o h;simp at h
 | cons o r ih =>
  intro k h i p hp
  cases i with
  | zero =>
   have hpo:o=p:=by simpa using hp
   subst hpo
   exact h.1
  | succ i =>
   have:=ih (k+1) h.2 i p (by simpa using hp)
   rw[show k+1+i=k+(i+1)from by omega]at this
   exact this
section
variable {P:Program} {ops:Array Oper}
structure MidG (R:World→World→Prop) (l:List Oper) (F:Nat→Value→World→Prop) (a0:Act) (w0:World) (c1 c2:Nat) (G:Value→Value→World→Prop) (listed:Array Bool) (a:Act) (w:World):Prop extends MidR R l F a0 w0 listed a w where
 joint:listed[c1]?=some true→listed[c2]?=some true→∀d1 d2,(l[c1]?).bind (·.dst)=some d1→(l[c2]?).bind (·.dst)=some d2→G (a.tmps.getD d1 undef) (a.tmps.getD d2 undef) w
theorem step_obG {Q:Exit→Act→World→Prop} {i:Nat} {o:Oper} {d:Tmp} {a:Act} {W:World} {K:Act→World→Prop} {A:World→Prop} {Bp Cp:Value→World→Prop}
  (ho:ops[i]?=some o) (hd:o.dst=some d) (hg:o.guard=none) (h:OpOut P o a.eval W (fun v w'=>A w'∧Bp v w'∧Cp v w')) (hK:∀v w',A w'→Bp v w'→Cp v w'→K (a.put (some d) v) w'):wpOp P ops Q i K a W:=by
 unfold wpOp
 simp only[ho]
 rw[if_pos (by simp[Region.wanted,hg])]
 left
 obtain⟨h⟩:=h
 unfold Oper.wp
 generalize (execOp a.eval o).run P W=r at h ⊢
 cases r with
 | ok n w' =>
  cases n with
  | value v=>simp only[Oper.upon,hd]at h ⊢;exact hK v w' h.1 h.2.1 h.2.2
  | skip=>simp only[Oper.upon,hd]at h ⊢;exact hK undef w' h.1 h.2.1 h.2.2
  | enter f args =>
   simp only[Oper.upon,hd]at h ⊢
   refine Calls.mono h fun e w'' hh=>?_
   obtain⟨v,rfl,h1,h2,h3⟩:=hh
   exact hK v w'' h1 h2 h3
  | _=>exact h.elim
 | halt x w'=>exact h.elim
theorem any_of_midG {R:World→World→Prop} (hR:IsExt R) {c1 c2:Nat} {G:Value→Value→World→Prop} (hG:∀v1 v2 a b,R a b→G v1 v2 a→G v1 v2 b) (hne:c1≠c2) {Q:Exit→Act→World→Prop} {l:List Oper} {F:Nat→Value→World→Prop} {a0:Act} {w0:World} (hops:ops=l.toArray) (hok:okB a0.tmps.size l 0=true)
  (hgall:l.all (fun o=>o.guard.isNone)=true) (hobs:ObsG R P l F a0 w0 c1 c2 G l 0)
  (hend:∀(vs:Nat→Value) (W:World),R w0 W→(∀i,i<l.length→WasR R (F i) (vs i) W)→Q .normal (fillL l 0 vs a0) W) :
  ∀(fuel:Nat) (listed:Array Bool) (a:Act) (w:World),MidG R l F a0 w0 c1 c2 G listed a w→(listed.toList.count false≤fuel)→wpAny P .any ops Q fuel listed a w:=by
 have hsz:ops.size=l.length:=by rw[hops];simp
 have hget:∀(i:Nat),ops[i]?=l[i]?:=fun i=>by rw[hops];simp
 have fin:∀(listed:Array Bool) (a:Act) (w:World),MidG R l F a0 w0 c1 c2 G listed a w→Region.ready .any ops listed=[]→Q .normal a w:=by
  intro listed a w hM hr
  have hall:∀(i:Nat),i<l.length→listed[i]?=some true:=by
   intro i
   induction i using Nat.strongRecOn with
   | ind i ih =>
    intro hi
    have hli:l[i]?=some l[i]:=List.getElem?_eq_getElem hi
    obtain⟨_,hdep⟩:=okB_at l 0 hok i _ hli
    have hls:i<listed.size:=by rw[hM.size];exact hi
    cases hv:listed[i] with
    | true=>rw[Array.getElem?_eq_getElem hls,hv]
    | false =>
     exfalso
     have hmem:i∈Region.ready .any ops listed:=by
      unfold Region.ready
      refine List.mem_filter.2 ⟨List.mem_range.2 (by rw[hsz];exact hi),?_⟩
      have h1:listed.getD i true=false:=by simp[Array.getD,hls,hv]
      rw[h1,hget i,hli]
      simp only[Bool.not_false,Bool.true_and,Option.map_some,Option.getD_some]
      rw[Array.all_eq_true']
      intro e he
      cases hbn:Region.binds .any e with
      | false=>rfl
      | true =>
       have hj:e.on∈depsOf l[i]:=List.mem_map.2 ⟨e,List.mem_filter.2 ⟨by simpa using he,hbn⟩,rfl⟩
       have hlt:=hdep _ hj
       have:=ih e.on (by omega) (by omega)
       simp[Array.getD_eq_getD_getElem?,this]
     rw[hr]at hmem
     cases hmem
  have key:a=fillL l 0 (fun i=>a.tmps.getD (((l[i]?).bind (·.dst)).getD 0) undef) a0:=by
   obtain⟨at_,ad⟩:=a
   have hdf:=hM.df
   simp only at hdf
   have e2:=fill_df l 0 (fun i=>at_.getD (((l[i]?).bind (·.dst)).getD 0) undef) a0
   suffices hh:at_=(fillL l 0 (fun i=>at_.getD (((l[i]?).bind (·.dst)).getD 0) undef) a0).tmps by
    cases hf:fillL l 0 (fun i=>at_.getD (((l[i]?).bind (·.dst)).getD 0) undef) a0 with
    | mk t dd =>
     rw[hf]at hh e2
     simp only at hh e2
     rw[hdf,←e2,←hh]
   apply Array.ext_getElem?
   intro t
   by_cases hx:∃(i:Nat) (o:Oper),l[i]?=some o∧o.dst=some t
   ·obtain⟨i,o,hi,hd⟩:=hx
    obtain⟨⟨d,h1,h2,h3⟩,_⟩:=okB_at l 0 hok i o hi
    rw[hd]at h1
    injection h1 with h1
    subst h1
    rw[fill_at a0 _ l 0 i o t hi hd h2 h3,Nat.zero_add,hi]
    obtain⟨d',v,g1,g2,_⟩:=hM.facts i o hi (hall i (List.getElem?_eq_some_iff.1 hi).1)
    rw[hd]at g1
    injection g1 with g1
    subst g1
    simp only at g2
    rw[g2]
    simp[hd,Array.getD_eq_getD_getElem?,g2]
   ·rw[fill_other t l 0 _ a0 (fun o ho hd=>by
     obtain⟨i,hi,hio⟩:=List.getElem_of_mem ho
     exact hx ⟨i,o,by rw[List.getElem?_eq_getElem hi,hio],hd⟩)]
    exact hM.old t (fun i o hi _ hd=>hx ⟨i,o,hi,hd⟩)
  rw[key]
  refine hend _ w hM.below fun i hi=>?_
  have hli:l[i]?=some l[i]:=List.getElem?_eq_getElem hi
  obtain⟨d,v,g1,g2,g3⟩:=hM.facts i _ hli (hall i hi)
  rw[hli]
  simp only[Option.bind_some,g1,Option.getD_some,Array.getD_eq_getD_getElem?,g2]
  exact g3
 intro fuel
 induction fuel with
 | zero =>
  intro listed a w hM hc
  have hr:Region.ready .any ops listed=[]:=by
   apply List.eq_nil_iff_forall_not_mem.2
   intro i hi
   obtain⟨h1,h2⟩:=List.mem_filter.1 hi
   have hlt:i<listed.size:=by rw[hM.size,←hsz];exact List.mem_range.1 h1
   simp only[Bool.and_eq_true,Bool.not_eq_true']at h2
   have hf:listed[i]=false:=by have:=h2.1;simpa [Array.getD,hlt]using this
   have:0<listed.toList.count false:=List.count_pos_iff.2 (by rw[←hf];simp)
   omega
  exact⟨hr,fin listed a w hM hr⟩
 | succ fuel ih =>
  intro listed a w hM hc
  refine⟨fin listed a w hM,fun i hi=>?_⟩
  obtain⟨h1,h2⟩:=List.mem_filter.1 hi
  have hlt:i<l.length:=by rw[←hsz];exact List.mem_range.1 h1
  have hlts:i<listed.size:=by rw[hM.size];exact hlt
  have hli:l[i]?=some l[i]:=List.getElem?_eq_getElem hlt
  rw[hget i,hli]at h2
  simp only[Bool.and_eq_true,Bool.not_eq_true',Option.map_some,Option.getD_some]at h2
  obtain⟨hun,hdeps⟩:=h2
  have hunf:listed[i]=false:=by simpa [Array.getD,hlts]using hun
  obtain⟨⟨d,hd,hdn,hdis⟩,hdep⟩:=okB_at l 0 hok i _ hli
  have hdl:∀j,j∈depsOf l[i]→listed[j]?=some true:=by
   intro j hj
   obtain⟨e,he,rfl⟩:=List.mem_map.1 hj
   obtain⟨he1,he2⟩:=List.mem_filter.1 he
   have:=Array.all_eq_true'.1 hdeps e (by simpa using he1)
   rw[he2]at this
   simp only[Bool.not_true,Bool.false_or]at this
   rw[Array.getD_eq_getD_getElem?]at this
   cases hx:listed[e.on]? with
   | none=>rw[hx]at this;simp at this
   | some b=>rw[hx]at this;simp at this;rw[this]
  have hob:=obsG_at l 0 hobs i _ hli
  rw[Nat.zero_add]at hob
  have hknow:KnowR R l F a0 w0 l[i] a.eval w:=by
   refine⟨hM.below,fun v=>rfl,fun f=>rfl,fun g=>rfl,fun t ht=>?_,fun j d' hj hjd=>?_⟩
   ·have:=hM.old t (fun j o hj _ hdj=>by
     have:=List.all_eq_true.1 ht o (List.mem_of_getElem? hj)
     rw[hdj]at this
     simp at this)
    show a.tmps.getD t undef=_
    rw[Array.getD_eq_getD_getElem?,this,Array.getD_eq_getD_getElem?]
   ·have hj':j∈depsOf l[i]:=by simpa using hj
    have hlj:=hdl j hj'
    have hjl:j<l.length:=by have:=hdep j hj';omega
    obtain⟨d2,v,g1,g2,g3⟩:=hM.facts j _ (List.getElem?_eq_getElem hjl) hlj
    rw[List.getElem?_eq_getElem hjl,Option.bind_some,g1]at hjd
    injection hjd with hjd
    subst hjd
    show WasR R (F j) (a.tmps.getD d2 undef) w
    rw[Array.getD_eq_getD_getElem?,g2]
    exact g3
  have hjoint:(depsOf l[i]).contains c1=true→(depsOf l[i]).contains c2=true→∀d1 d2,(l[c1]?).bind (·.dst)=some d1→(l[c2]?).bind (·.dst)=some d2→G (a.eval (.tmp d1)) (a.eval (.tmp d2)) w:=fun q1 q2 d1 d2 e1 e2 =>
   hM.joint (hdl _ (by simpa using q1)) (hdl _ (by simpa using q2)) d1 d2 e1 e2
  refine step_obG (by rw[hget];exact hli) hd (by have:=List.all_eq_true.1 hgall l[i] (List.getElem_mem hlt);exact Option.isNone_iff_eq_none.1 this) (hob.run a.eval w hknow hjoint) fun v w' hb hF hJ=>ih _ _ _ ?_ ?_
  ·have hset:∀(j:Nat),(listed.setIfInBounds i true)[j]?=some true→j=i∨listed[j]?=some true:=by
    intro j hj
    by_cases hji:j=i
    ·exact .inl hji
    ·right
     rw[Array.getElem?_setIfInBounds_ne (fun e=>hji e.symm)]at hj
     exact hj
   refine⟨⟨by simp[hM.size],by rw[put_df];exact hM.df,by rw[put_size];exact hM.tsize,hR.trans hM.below hb,fun t ht=>?_,fun j o hj hlj=>?_⟩,fun q1 q2 d1 d2 e1 e2=>?_⟩
   ·rw[put_get_ne _ _ _ _ (fun e=>?_)]
    ·refine hM.old t fun j o hj hlj=>ht j o hj ?_
     by_cases hji:j=i
     ·subst hji
      simp[hlts]
     ·rw[Array.getElem?_setIfInBounds_ne (fun e=>hji e.symm)];exact hlj
    ·exact ht i _ hli (by simp[hlts]) (hd.trans e)
   ·by_cases hji:j=i
    ·subst hji
     rw[hli]at hj
     injection hj with hj
     subst hj
     exact⟨d,v,hd,put_get _ _ _ (by rw[hM.tsize];exact hdn),w',hR.refl _,hF⟩
    ·have hlj':=(hset j hlj).resolve_left hji
     obtain⟨d',v',g1,g2,g3⟩:=hM.facts j o hj hlj'
     refine⟨d',v',g1,?_,g3.more hR hb⟩
     rw[put_get_ne _ _ _ _ (fun e=>?_)]
     ·exact g2
     ·injection e with e
      subst e
      obtain⟨⟨d2,q1,_,q3⟩,_⟩:=okB_at l 0 hok j o hj
      rw[g1]at q1
      injection q1 with q1
      subst q1
      rcases Nat.lt_or_gt_of_ne hji with hh|hh
      ·exact q3 i _ hli hh hd
      ·exact hdis j o hj hh g1
   ·-- the two of them
    have getI:∀(j:Nat) dj,(l[j]?).bind (·.dst)=some dj→∃o,l[j]?=some o∧o.dst=some dj:=fun j dj e=>by
     cases hq:l[j]? with
     | none=>rw[hq]at e;simp at e
     | some o=>rw[hq]at e;exact⟨o,rfl,e⟩
    obtain⟨o1,l1,g1⟩:=getI c1 d1 e1
    obtain⟨o2,l2,g2⟩:=getI c2 d2 e2
    have other:∀(j:Nat) o dj,l[j]?=some o→o.dst=some dj→j≠i→dj≠d:=fun j o dj hj g hji e=>by
     subst e
     obtain⟨⟨d2,q1,_,q3⟩,_⟩:=okB_at l 0 hok j o hj
     rw[g]at q1
     injection q1 with q1
     subst q1
     rcases Nat.lt_or_gt_of_ne hji with hh|hh
     ·exact q3 i _ hli hh hd
     ·exact hdis j o hj hh g
    have keep:∀dj,dj≠d→(a.put (some d) v).tmps.getD dj undef=a.tmps.getD dj undef:=fun dj h=>by
     rw[Array.getD_eq_getD_getElem?,put_get_ne _ _ _ _ (fun e=>by injection e with e;exact h e.symm),Array.getD_eq_getD_getElem?]
    have put_:(a.put (some d) v).tmps.getD d undef=v:=by
     rw[Array.getD_eq_getD_getElem?,put_get _ _ _ (by rw[hM.tsize];exact hdn)]
     rfl
    have was:∀(j:Nat) o dj,l[j]?=some o→o.dst=some dj→listed[j]?=some true→WasR R (F j) (a.tmps.getD dj undef) w:=fun j o dj hj g hl=>by
     obtain⟨d',v',k1,k2,k3⟩:=hM.facts j o hj hl
     rw[g]at k1
     injection k1 with k1
     subst k1
     rw[Array.getD_eq_getD_getElem?,k2]
     exact k3
    by_cases h1:c1=i
    ·have hd1:d1=d:=by
      rw[h1,hli]at l1
      injection l1 with l1
      subst l1
      rw[hd]at g1
      injection g1 with g1
      exact g1.symm
     have hn2:c2≠i:=fun e=>hne (h1.trans e.symm)
     rw[hd1,put_,keep d2 (other c2 o2 d2 l2 g2 hn2)]
     exact hJ.1 h1.symm _ (was c2 o2 d2 l2 g2 ((hset c2 q2).resolve_left hn2))
    ·by_cases h2:c2=i
     ·have hd2:d2=d:=by
       rw[h2,hli]at l2
       injection l2 with l2
       subst l2
       rw[hd]at g2
       injection g2 with g2
       exact g2.symm
      rw[hd2,put_,keep d1 (other c1 o1 d1 l1 g1 h1)]
      exact hJ.2 h2.symm _ (was c1 o1 d1 l1 g1 ((hset c1 q1).resolve_left h1))
     ·rw[keep d1 (other c1 o1 d1 l1 g1 h1),keep d2 (other c2 o2 d2 l2 g2 h2)]
      exact hG _ _ _ _ hb (hM.joint ((hset c1 q1).resolve_left h1) ((hset c2 q2).resolve_left h2) d1 d2 e1 e2)
  ·have hlen:i<listed.toList.length:=by simpa using hlts
   have hcnt:(listed.setIfInBounds i true).toList.count false+1=listed.toList.count false:=by
    rw[Array.toList_setIfInBounds,List.count_set hlen]
    have h3:listed.toList[i]=false:=by simpa using hunf
    rw[h3]
    have hpos:0<listed.toList.count false:=List.count_pos_iff.2 (by rw[←h3];exact List.getElem_mem hlen)
    rw[if_pos (by decide),if_neg (by decide)]
    omega
   omega
theorem wp_region_lastG {R:World→World→Prop} (hR:IsExt R) {c1 c2:Nat} {G:Value→Value→World→Prop} (hG:∀v1 v2 a b,R a b→G v1 v2 a→G v1 v2 b) (hne:c1≠c2) {id:Nat} {l:List Oper} {o:Oper} {Q:Exit→Act→World→Prop} {a0:Act} {w0:World} (F:Nat→Value→World→Prop) (hm:P.follows .mixedOrders=true) (hok:okB a0.tmps.size l 0=true) (hlast:lastB l o=true)
  (hgall:l.all (fun o=>o.guard.isNone)=true) (hobs:ObsG R P l F a0 w0 c1 c2 G l 0)
  (hend:∀(vs:Nat→Value) (W:World),R w0 W→(∀i,i<l.length→WasR R (F i) (vs i) W)→wpList P #[o] Q [o] (fillL l 0 vs a0) W):(Code.region id (l++[o]).toArray true).wp P Q a0 w0:=by
 refine wp_region_any hm ?_
 have h1:wpAny P .any l.toArray (TailQ P o Q) l.length (Array.replicate l.length false) a0 w0.drew:=by
  have hgd:o.guard=none:=by
   simp only[lastB,Bool.and_eq_true]at hlast
   exact Option.isNone_iff_eq_none.1 hlast.1.2
  have hend':∀(vs:Nat→Value) (W:World),R w0 W→(∀i,i<l.length→WasR R (F i) (vs i) W)→TailQ P o Q .normal (fillL l 0 vs a0) W:=by
   intro vs W h1 h2
   have h3:=hend vs W h1 h2
   unfold wpList at h3
   rw[if_pos (by simp[Region.wanted,hgd])]at h3
   exact h3
  refine any_of_midG hR hG hne rfl hok hgall hobs hend' _ _ _ _ ⟨⟨by simp,rfl,rfl,hR.drew _,fun t _=>rfl,fun i o hi hl=>?_⟩,fun q1=>?_⟩ ?_
  ·exfalso
   rw[Array.getElem?_replicate]at hl
   split at hl<;>simp at hl
  ·exfalso
   rw[Array.getElem?_replicate]at q1
   split at q1<;>simp at q1
  ·rw[Array.toList_replicate]
   exact Nat.le_trans List.count_le_length (by simp)
 have h2:=any_tail (Q:=Q) hok hlast l.length _ a0 w0.drew (by simp) (fun i p hp hl=>by
  exfalso
  rw[Array.getElem?_replicate]at hl
  split at hl<;>simp at hl) h1
 have e1:(l++[o]).toArray.size=l.length+1:=by simp
 have e2:(Array.replicate l.length false).push false=Array.replicate (l.length+1) false:=by
  rw[←Array.replicate_succ]
 rw[e1,←e2]
 exact h2
end
end Go.Proofs.YtomppgohoplemaaGreat
