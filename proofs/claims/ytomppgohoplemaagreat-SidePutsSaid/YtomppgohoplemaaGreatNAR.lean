import Derived.Test.YtomppgohoplemaaGreatNAB
import Derived.Test.YtomppgohoplemaaGreatNAF
set_option linter.unusedVariables false
namespace Go.Proofs.YtomppgohoplemaaGreat
open Go.RowKit
section
variable {P:Program} {ops:Array Oper}
def okD (n:Nat):List Oper→Nat→Bool
 | [],_=>true
 | o::r,i=>(match o.dst with|some d=>decide (d<n)&&r.all (fun p=>p.dst != some d)|none=>true)&&o.after.all (fun e=>!Region.binds .any e||decide (e.on<i))&&okD n r (i+1)
theorem okD_at {n:Nat}:∀(l:List Oper) (k:Nat),okD n l k=true→∀(i:Nat) o,l[i]?=some o →
  (∀d,o.dst=some d→d<n∧∀(j:Nat) p,l[j]?=some p→i<j→p.dst≠some d)∧(∀j,j∈depsOf o→j<k+i):=by
 intro l
 induction l with
 | nil=>intro k _ i o h;simp at h
 | cons o r ih =>
  intro k hk i p hp
  simp only[okD,Bool.and_eq_true]at hk
  obtain⟨⟨h1,h3⟩,h5⟩:=hk
  cases i with
  | succ i =>
   obtain⟨a1,c⟩:=ih (k+1) h5 i p (by simpa using hp)
   refine⟨fun d hd=>⟨(a1 d hd).1,fun j q hq hj=>?_⟩,fun j hj=>by have:=c j hj;omega⟩
   cases j with
   | zero=>omega
   | succ j=>exact(a1 d hd).2 j q (by simpa using hq) (by omega)
  | zero =>
   have hpo:o=p:=by simpa using hp
   subst hpo
   refine⟨fun d hdst=>?_,fun j hj=>?_⟩
   ·rw[hdst]at h1
    simp only[Bool.and_eq_true,decide_eq_true_eq,List.all_eq_true]at h1
    obtain⟨g1,g2⟩:=h1
    refine⟨g1,fun j q hq hj=>?_⟩
    cases j with
    | zero=>omega
    | succ j =>
     have:=g2 q (List.mem_of_getElem? (by simpa using hq))
     simpa using this
   ·obtain⟨e,he,rfl⟩:=List.mem_map.1 hj
    obtain⟨he1,he2⟩:=List.mem_filter.1 he
    have:=Array.all_eq_true'.1 h3 e (by simpa using he1)
    simp only[Bool.or_eq_true,Bool.not_eq_true',decide_eq_true_eq]at this
    rcases this with h|h
    ·rw[h]at he2;exact nomatch he2
    ·omega
def valOf (ρ:Operand→Value) (o:Oper):Value:=match o.dst with|some d=>ρ (.tmp d)|none=>undef
theorem valOf_put (a:Act) (o p:Oper) (v:Value) (h:∀d,o.dst=some d→p.dst≠some d):valOf (a.put p.dst v).eval o=valOf a.eval o:=by
 unfold valOf
 cases hd:o.dst with
 | none=>rfl
 | some d =>
  show (a.put p.dst v).tmps.getD d undef=a.tmps.getD d undef
  rw[Array.getD_eq_getD_getElem?,put_get_ne _ _ _ _ (h d hd),Array.getD_eq_getD_getElem?]
theorem valOf_self (a:Act) (o:Oper) (v:Value) (h:∀d,o.dst=some d→d<a.tmps.size) (F:Value→World→Prop) (w:World) (hF:F v w) (hu:o.dst=none→F undef w):F (valOf (a.put o.dst v).eval o) w:=by
 unfold valOf
 cases hd:o.dst with
 | none=>exact hu hd
 | some d =>
  show F ((a.put (some d) v).tmps.getD d undef) w
  rw[Array.getD_eq_getD_getElem?,put_get _ _ _ (h d hd)]
  exact hF
def oldB (l:List Oper) (i t:Nat):Bool:=l.all fun p=>p.dst != some t||(closureOf l l.length (depsOf p)).contains i
structure ObD (R R':World→World→Prop) (P:Program) (l:List Oper) (F:Nat→Value→World→Prop) (a0:Act) (w0:World) (cs:List Nat) (i:Nat) (o:Oper):Prop where
 run:∀(ρ:Operand→Value) (W:World),KnowR R' l F a0 w0 o ρ W→(cs[0]?=some i→KnowR R l F a0 w0 o ρ W)→(∀t,oldB l i t=true→ρ (.tmp t)=a0.tmps.getD t undef)→(∀k,cs[k]?=some i→(k=0→R w0 W)∧(∀m c p,k=m+1→cs[m]?=some c→l[c]?=some p→WasR R (F c) (valOf ρ p) W)) →
  (
   match o.guard with
   | none=>OpOut P o ρ W (fun v w'=>(if i∈cs then R' W w' else R W w')∧F i v w')
   | some (g,want)=>i∉cs∧∃d,(l[g]?).bind (·.dst)=some d∧((∃b,ρ (.tmp d)=.bool b∧(b=want→OpOut P o ρ W (fun v w'=>R W w'∧F i v w'))∧(b≠want→F i undef W))∨(ρ (.tmp d)=undef∧F i undef W)))
theorem ObD.plain {R R':World→World→Prop} {P:Program} {l:List Oper} {F:Nat→Value→World→Prop} {a0:Act} {w0:World} {cs:List Nat} {i:Nat} {o:Oper} (hi:i∉cs) (hg:o.guard=none)
  (h:∀(ρ:Operand→Value) (W:World),KnowR R' l F a0 w0 o ρ W→OpOut P o ρ W (fun v w'=>R W w'∧F i v w')):ObD R R' P l F a0 w0 cs i o :=
 ⟨fun ρ W hk _ _ _=>by rw[hg];simp only[if_neg hi];exact h ρ W hk⟩
theorem ObD.plainO {R R':World→World→Prop} {P:Program} {l:List Oper} {F:Nat→Value→World→Prop} {a0:Act} {w0:World} {cs:List Nat} {i:Nat} {o:Oper} (hi:i∉cs) (hg:o.guard=none)
  (h:∀(ρ:Operand→Value) (W:World),KnowR R' l F a0 w0 o ρ W→(∀t,oldB l i t=true→ρ (.tmp t)=a0.tmps.getD t undef)→OpOut P o ρ W (fun v w'=>R W w'∧F i v w')):ObD R R' P l F a0 w0 cs i o :=
 ⟨fun ρ W hk _ ho _=>by rw[hg];simp only[if_neg hi];exact h ρ W hk ho⟩
theorem ObD.first {R R':World→World→Prop} {P:Program} {l:List Oper} {F:Nat→Value→World→Prop} {a0:Act} {w0:World} {cs:List Nat} {i:Nat} {o:Oper} (hi:cs[0]?=some i) (hg:o.guard=none)
  (h:∀(ρ:Operand→Value) (W:World),KnowR R' l F a0 w0 o ρ W→KnowR R l F a0 w0 o ρ W→OpOut P o ρ W (fun v w'=>R' W w'∧F i v w')):ObD R R' P l F a0 w0 cs i o :=
 ⟨fun ρ W hk h0 _ _=>by rw[hg];simp only[if_pos (List.mem_of_getElem? hi)];exact h ρ W hk (h0 hi)⟩
theorem ObD.next {R R':World→World→Prop} {P:Program} {l:List Oper} {F:Nat→Value→World→Prop} {a0:Act} {w0:World} {cs:List Nat} {i:Nat} {o:Oper} (m c d:Nat) (hi:cs[m+1]?=some i) (hc:cs[m]?=some c) (hd:(l[c]?).bind (·.dst)=some d) (hg:o.guard=none)
  (h:∀(ρ:Operand→Value) (W:World),KnowR R' l F a0 w0 o ρ W→WasR R (F c) (ρ (.tmp d)) W→OpOut P o ρ W (fun v w'=>R' W w'∧F i v w')):ObD R R' P l F a0 w0 cs i o :=
 ⟨fun ρ W hk _ _ hw=>by
  rw[hg]
  simp only[if_pos (List.mem_of_getElem? hi)]
  obtain⟨p,hp,hpd⟩:=Option.bind_eq_some_iff.1 hd
  have:=(hw (m+1) hi).2 m c p rfl hc hp
  unfold valOf at this
  rw[hpd]at this
  exact h ρ W hk this⟩
def ObsD (R R':World→World→Prop) (P:Program) (l:List Oper) (F:Nat→Value→World→Prop) (a0:Act) (w0:World) (cs:List Nat):List Oper→Nat→Prop
 | [],_=>True
 | o::r,i=>ObD R R' P l F a0 w0 cs i o∧ObsD R R' P l F a0 w0 cs r (i+1)
theorem obsD_at {R R':World→World→Prop} {P:Program} {L:List Oper} {F:Nat→Value→World→Prop} {a0:Act} {w0:World} {cs:List Nat}:∀(l:List Oper) (k:Nat),ObsD R R' P L F a0 w0 cs l k→∀(i:Nat) o,l[i]?=some o→ObD R R' P L F a0 w0 cs (k+i) o:=by
 intro l
 induction l with
 | nil=>intro k _ i o h;simp at h
 | cons o r ih =>
  intro k h i p hp
  cases i with
  | zero =>
   have hpo:o=p:=by simpa using hp
   subst hpo
   exact h.1
  | succ i =>
   have:=ih (k+1) h.2 i p (by simpa using hp)
   rw[show k+1+i=k+(i+1)from by omega]at this
   exact this
structure MidD (R R':World→World→Prop) (l:List Oper) (F:Nat→Value→World→Prop) (a0:Act) (w0:World) (cs:List Nat) (listed:Array Bool) (a:Act) (w:World):Prop where
 size:listed.size=l.length
 df:a.defers=a0.defers
 tsize:a.tmps.size=a0.tmps.size
 below:R' w0 w
 chain:∃k,k≤cs.length∧(∀(m c:Nat),cs[m]?=some c→(listed[c]?=some true↔m<k))∧(k=0→R w0 w)∧(∀m c p,k=m+1→cs[m]?=some c→l[c]?=some p→WasR R (F c) (valOf a.eval p) w)
 old:∀t,(∀(i:Nat) o,l[i]?=some o→listed[i]?=some true→o.dst≠some t)→a.tmps[t]?=a0.tmps[t]?
 closed:∀(i:Nat) o,l[i]?=some o→listed[i]?=some true→∀j∈depsOf o,listed[j]?=some true
 facts:∀(i:Nat) o,l[i]?=some o→listed[i]?=some true→WasR R' (F i) (valOf a.eval o) w∧((∀c∈cs,listed[c]?≠some true)→WasR R (F i) (valOf a.eval o) w)
def chainOk (l:List Oper):List Nat→Bool
 | []=>true
 | [_]=>true
 | c::d::r=>(match l[d]? with|some o=>(depsOf o).contains c|none=>false)&&chainOk l (d::r)
theorem chain_dep {l:List Oper}:∀(cs:List Nat),chainOk l cs=true→∀(m c d:Nat),cs[m]?=some c→cs[m+1]?=some d→∃o,l[d]?=some o∧c∈depsOf o:=by
 intro cs
 induction cs with
 | nil=>intro _ m c d h;simp at h
 | cons c r ih =>
  intro h m c' d' h1 h2
  cases r with
  | nil=>simp at h2
  | cons d r =>
   simp only[chainOk,Bool.and_eq_true]at h
   cases m with
   | zero =>
    simp at h1 h2
    subst h1;subst h2
    revert h
    cases l[d]? with
    | none=>rintro⟨h,_⟩;cases h
    | some o=>rintro⟨h,_⟩;exact⟨o,rfl,by simpa using h⟩
   | succ m=>exact ih h.2 m c' d' (by simpa using h1) (by simpa using h2)
theorem step_obD {R R':World→World→Prop} (hR:IsExt R) {Q:Exit→Act→World→Prop} {l:List Oper} {F:Nat→Value→World→Prop} {a0:Act} {w0:World} {cs:List Nat} {i:Nat} {o:Oper} {a:Act} {W:World} {K:Act→World→Prop}
  (hops:∀i:Nat,ops[i]?=l[i]?) (ho:ops[i]?=some o) (h:ObD R R' P l F a0 w0 cs i o) (hk:KnowR R' l F a0 w0 o a.eval W) (hkk:cs[0]?=some i→KnowR R l F a0 w0 o a.eval W) (hko:∀t,oldB l i t=true→a.eval (.tmp t)=a0.tmps.getD t undef) (hkc:∀k,cs[k]?=some i→(k=0→R w0 W)∧(∀m c p,k=m+1→cs[m]?=some c→l[c]?=some p→WasR R (F c) (valOf a.eval p) W)) (hK:∀v w',(if i∈cs then R' W w' else R W w')→F i v w'→K (a.put o.dst v) w'):wpOp P ops Q i K a W:=by
 have hout:OpOut P o a.eval W (fun v w'=>(if i∈cs then R' W w' else R W w')∧F i v w')→o.wp P a W K Q:=by
  intro⟨h⟩
  unfold Oper.wp
  generalize (execOp a.eval o).run P W=r at h ⊢
  cases r with
  | ok n w' =>
   cases n with
   | value v=>simp only[Oper.upon]at h ⊢;exact hK v w' h.1 h.2
   | skip=>simp only[Oper.upon]at h ⊢;exact hK undef w' h.1 h.2
   | enter f args =>
    simp only[Oper.upon]at h ⊢
    refine Calls.mono h fun e w'' hh=>?_
    obtain⟨v,rfl,h1,h2⟩:=hh
    exact hK v w'' h1 h2
   | _=>exact h.elim
  | halt x w'=>exact h.elim
 unfold wpOp
 simp only[ho]
 have h:=h.run a.eval W hk hkk hko hkc
 cases hg:o.guard with
 | none =>
  rw[hg]at h
  have hw:Region.wanted o (yielded ops a.tmps)=true:=by simp[Region.wanted,hg]
  rw[if_pos hw]
  exact .inl (hout h)
 | some gw =>
  obtain⟨g,want⟩:=gw
  rw[hg]at h
  obtain⟨hic,dg,h1,⟨b,h2,h3,h4⟩|⟨h2,h4⟩⟩:=h
  rotate_left
  ·have hy:yielded ops a.tmps g≠some want:=by
    unfold yielded
    rw[hops g,h1]
    have h2':a.tmps.getD dg undef=undef:=h2
    rw[Array.getD_eq_getD_getElem?]at h2'
    cases hx:a.tmps[dg]? with
    | none=>simp[hx]
    | some u =>
     rw[hx]at h2'
     simp only[Option.getD_some]at h2'
     subst h2'
     simp[hx,undef]
   have hw:Region.wanted o (yielded ops a.tmps)=false:=by simpa [Region.wanted,hg]using hy
   rw[hw,if_neg (by simp)]
   exact hK undef W (by rw[if_neg hic];exact hR.refl _) h4
  have hy:yielded ops a.tmps g=some b:=by
   unfold yielded
   rw[hops g,h1]
   have h2':a.tmps.getD dg undef=.bool b:=h2
   rw[Array.getD_eq_getD_getElem?]at h2'
   cases hx:a.tmps[dg]? with
   | none=>rw[hx]at h2';simp[undef]at h2'
   | some u=>rw[hx]at h2';simp only[Option.getD_some]at h2';subst h2';simp[hx]
  have hw:Region.wanted o (yielded ops a.tmps)=(some b==some want):=by simp[Region.wanted,hg,hy]
  rw[hw]
  by_cases hb:b=want
  ·subst hb
   rw[if_pos (by simp)]
   refine .inl (hout ?_)
   simp only[if_neg hic]
   exact h3 rfl
  ·rw[if_neg (by simpa using hb)]
   exact hK undef W (by rw[if_neg hic];exact hR.refl _) (h4 hb)
theorem any_of_midD {R R':World→World→Prop} (hR:IsExt R) (hR':IsExt R') (hsub:∀a b,R a b→R' a b) {cs:List Nat} {c:Nat} {Q:Exit→Act→World→Prop} {l:List Oper} {F:Nat→Value→World→Prop} {a0:Act} {w0:World} (hops:ops=l.toArray) (hok:okD a0.tmps.size l 0=true)
  (hch:chainOk l cs=true) (hnd:cs.Nodup) (hla:cs[cs.length-1]?=some c) (hlt0:∀x∈cs,x<l.length) (hsd:∀(i:Nat) o,i∉cs→l[i]?=some o→o.dst≠none) (hnu:∀(i:Nat) o,i∈cs→l[i]?=some o→∀(w w':World) v,True→F i v w'→o.dst=none→F i undef w')
  (hobs:ObsD R R' P l F a0 w0 cs l 0)
  (hend:∀(vs:Nat→Value) (W:World),R' w0 W→(∀i,i<l.length→WasR R' (F i) (vs i) W)→WasR R (F c) (vs c) W→Q .normal (fillL l 0 vs a0) W) :
  ∀(fuel:Nat) (listed:Array Bool) (a:Act) (w:World),MidD R R' l F a0 w0 cs listed a w→(listed.toList.count false≤fuel)→wpAny P .any ops Q fuel listed a w:=by
 have hsz:ops.size=l.length:=by rw[hops];simp
 have hget:∀(i:Nat),ops[i]?=l[i]?:=fun i=>by rw[hops];simp
 have fin:∀(listed:Array Bool) (a:Act) (w:World),MidD R R' l F a0 w0 cs listed a w→Region.ready .any ops listed=[]→Q .normal a w:=by
  intro listed a w hM hr
  have hall:∀(i:Nat),i<l.length→listed[i]?=some true:=by
   intro i
   induction i using Nat.strongRecOn with
   | ind i ih =>
    intro hi
    have hli:l[i]?=some l[i]:=List.getElem?_eq_getElem hi
    obtain⟨_,hdep⟩:=okD_at l 0 hok i _ hli
    have hls:i<listed.size:=by rw[hM.size];exact hi
    cases hv:listed[i] with
    | true=>rw[Array.getElem?_eq_getElem hls,hv]
    | false =>
     exfalso
     have hmem:i∈Region.ready .any ops listed:=by
      unfold Region.ready
      refine List.mem_filter.2 ⟨List.mem_range.2 (by rw[hsz];exact hi),?_⟩
      have h1:listed.getD i true=false:=by simp[Array.getD,hls,hv]
      rw[h1,hget i,hli]
      simp only[Bool.not_false,Bool.true_and,Option.map_some,Option.getD_some]
      rw[Array.all_eq_true']
      intro e he
      cases hbn:Region.binds .any e with
      | false=>rfl
      | true =>
       have hj:e.on∈depsOf l[i]:=List.mem_map.2 ⟨e,List.mem_filter.2 ⟨by simpa using he,hbn⟩,rfl⟩
       have hlt:=hdep _ hj
       have:=ih e.on (by omega) (by omega)
       simp[Array.getD_eq_getD_getElem?,this]
     rw[hr]at hmem
     cases hmem
  let vs:Nat→Value:=fun i=>match l[i]? with|some o=>valOf a.eval o|none=>undef
  have hvs:∀(i:Nat) o,l[i]?=some o→vs i=valOf a.eval o:=fun i o h=>by simp only[vs,h]
  have key:a=fillL l 0 vs a0:=by
   obtain⟨at_,ad⟩:=a
   have hdf:=hM.df
   simp only at hdf
   have e2:=fill_df l 0 vs a0
   suffices hh:at_=(fillL l 0 vs a0).tmps by
    cases hf:fillL l 0 vs a0 with
    | mk t dd =>
     rw[hf]at hh e2
     simp only at hh e2
     rw[hdf,←e2,←hh]
   apply Array.ext_getElem?
   intro t
   by_cases hx:∃(i:Nat) (o:Oper),l[i]?=some o∧o.dst=some t
   ·obtain⟨i,o,hi,hd⟩:=hx
    obtain⟨h1,_⟩:=okD_at l 0 hok i o hi
    obtain⟨h2,h3⟩:=h1 t hd
    rw[fill_at a0 _ l 0 i o t hi hd h2 h3,Nat.zero_add,hvs i o hi]
    have hts:at_.size=a0.tmps.size:=hM.tsize
    have hlt:t<at_.size:=by rw[hts];exact h2
    unfold valOf
    rw[hd]
    show at_[t]?=some (at_.getD t undef)
    rw[Array.getElem?_eq_getElem hlt]
    simp[Array.getD,hlt]
   ·rw[fill_other t l 0 _ a0 (fun o ho hd=>by
     obtain⟨i,hi,hio⟩:=List.getElem_of_mem ho
     exact hx ⟨i,o,by rw[List.getElem?_eq_getElem hi,hio],hd⟩)]
    exact hM.old t (fun i o hi _ hd=>hx ⟨i,o,hi,hd⟩)
  have hend2:=hend vs w hM.below (fun i hi=>by
   have hli:l[i]?=some l[i]:=List.getElem?_eq_getElem hi
   rw[hvs i _ hli]
   exact(hM.facts i _ hli (hall i hi)).1) (by
   have hcm:c∈cs:=List.mem_of_getElem? hla
   have hcl:c<l.length:=hlt0 c hcm
   have hli:l[c]?=some l[c]:=List.getElem?_eq_getElem hcl
   obtain⟨k,hk1,hk2,_,hk4⟩:=hM.chain
   have hkl:cs.length-1<k:=(hk2 _ _ hla).1 (hall c hcl)
   have hcs:0<cs.length:=List.length_pos_of_mem hcm
   rw[hvs c _ hli]
   exact hk4 (cs.length-1) c _ (by omega) hla hli)
  rw[key]
  exact hend2
 intro fuel
 induction fuel with
 | zero =>
  intro listed a w hM hc
  have hr:Region.ready .any ops listed=[]:=by
   apply List.eq_nil_iff_forall_not_mem.2
   intro i hi
   obtain⟨h1,h2⟩:=List.mem_filter.1 hi
   have hlt:i<listed.size:=by rw[hM.size,←hsz];exact List.mem_range.1 h1
   simp only[Bool.and_eq_true,Bool.not_eq_true']at h2
   have hf:listed[i]=false:=by have:=h2.1;simpa [Array.getD,hlt]using this
   have:0<listed.toList.count false:=List.count_pos_iff.2 (by rw[←hf];simp)
   omega
  exact⟨hr,fin listed a w hM hr⟩
 | succ fuel ih =>
  intro listed a w hM hc
  refine⟨fin listed a w hM,fun i hi=>?_⟩
  obtain⟨h1,h2⟩:=List.mem_filter.1 hi
  have hlt:i<l.length:=by rw[←hsz];exact List.mem_range.1 h1
  have hlts:i<listed.size:=by rw[hM.size];exact hlt
  have hli:l[i]?=some l[i]:=List.getElem?_eq_getElem hlt
  rw[hget i,hli]at h2
  simp only[Bool.and_eq_true,Bool.not_eq_true',Option.map_some,Option.getD_some]at h2
  obtain⟨hun,hdeps⟩:=h2
  have hunf:listed[i]=false:=by simpa [Array.getD,hlts]using hun
  obtain⟨hdok,hdep⟩:=okD_at l 0 hok i _ hli
  have hdl:∀j,j∈depsOf l[i]→listed[j]?=some true:=by
   intro j hj
   obtain⟨e,he,rfl⟩:=List.mem_map.1 hj
   obtain⟨he1,he2⟩:=List.mem_filter.1 he
   have:=Array.all_eq_true'.1 hdeps e (by simpa using he1)
   rw[he2]at this
   simp only[Bool.not_true,Bool.false_or]at this
   rw[Array.getD_eq_getD_getElem?]at this
   cases hx:listed[e.on]? with
   | none=>rw[hx]at this;simp at this
   | some b=>rw[hx]at this;simp at this;rw[this]
  have hob:=obsD_at l 0 hobs i _ hli
  rw[Nat.zero_add]at hob
  have hknow:KnowR R' l F a0 w0 l[i] a.eval w:=by
   refine⟨hM.below,fun v=>rfl,fun f=>rfl,fun g=>rfl,fun t ht=>?_,fun j d' hj hjd=>?_⟩
   ·have:=hM.old t (fun j o hj _ hdj=>by
     have:=List.all_eq_true.1 ht o (List.mem_of_getElem? hj)
     rw[hdj]at this
     simp at this)
    show a.tmps.getD t undef=_
    rw[Array.getD_eq_getD_getElem?,this,Array.getD_eq_getD_getElem?]
   ·have hj':j∈depsOf l[i]:=by simpa using hj
    have hlj:=hdl j hj'
    have hjl:j<l.length:=by have:=hdep j hj';omega
    have g3:=(hM.facts j _ (List.getElem?_eq_getElem hjl) hlj).1
    rw[List.getElem?_eq_getElem hjl,Option.bind_some]at hjd
    unfold valOf at g3
    rw[hjd]at g3
    exact g3
  obtain⟨kc,hkl,hkm,hk0,hks⟩:=hM.chain
  have hidx:∀k,cs[k]?=some i→k=kc:=by
   intro k hk
   have h1:¬k<kc:=fun h=>by
    have:=(hkm k i hk).2 h
    rw[Array.getElem?_eq_getElem hlts,hunf]at this
    simp at this
   apply Decidable.byContradiction
   intro hne
   obtain⟨m,rfl⟩:∃m,k=m+1:=⟨k-1,by omega⟩
   have hml:m<cs.length:=by have:=(List.getElem?_eq_some_iff.1 hk).1;omega
   obtain⟨o',ho',hcd⟩:=chain_dep cs hch m cs[m] i (List.getElem?_eq_getElem hml) hk
   rw[hli]at ho'
   injection ho' with ho'
   subst ho'
   have:=(hkm m cs[m] (List.getElem?_eq_getElem hml)).1 (hdl _ hcd)
   omega
  have hnone:cs[0]?=some i→∀c∈cs,listed[c]?≠some true:=by
   intro h0 c' hc' hl'
   have:=hidx 0 h0
   obtain⟨m,hm,e⟩:=List.getElem_of_mem hc'
   have:=(hkm m c' (by rw[List.getElem?_eq_getElem hm,e])).1 hl'
   omega
  have hknow0:cs[0]?=some i→KnowR R l F a0 w0 l[i] a.eval w:=by
   intro h0
   refine⟨hk0 (hidx 0 h0).symm,fun v=>rfl,fun f=>rfl,fun g=>rfl,fun t ht=>?_,fun j d' hj hjd=>?_⟩
   ·have:=hM.old t (fun j o hj _ hdj=>by
     have:=List.all_eq_true.1 ht o (List.mem_of_getElem? hj)
     rw[hdj]at this
     simp at this)
    show a.tmps.getD t undef=_
    rw[Array.getD_eq_getD_getElem?,this,Array.getD_eq_getD_getElem?]
   ·have hj':j∈depsOf l[i]:=by simpa using hj
    have hlj:=hdl j hj'
    have hjl:j<l.length:=by have:=hdep j hj';omega
    have g3:=(hM.facts j _ (List.getElem?_eq_getElem hjl) hlj).2 (hnone h0)
    rw[List.getElem?_eq_getElem hjl,Option.bind_some]at hjd
    unfold valOf at g3
    rw[hjd]at g3
    exact g3
  have hstill:∀k,cs[k]?=some i→(k=0→R w0 w)∧(∀m c p,k=m+1→cs[m]?=some c→l[c]?=some p→WasR R (F c) (valOf a.eval p) w):=by
   intro k hk
   have:=hidx k hk
   subst this
   exact⟨hk0,fun m c d h1 h2 h3=>hks m c d h1 h2 h3⟩
  have hkold:∀t,oldB l i t=true→a.eval (.tmp t)=a0.tmps.getD t undef:=by
   intro t ht
   have:=hM.old t (fun j o hj hlj hdj=>by
    have h3:=List.all_eq_true.1 ht o (List.mem_of_getElem? hj)
    rw[hdj]at h3
    simp only[bne_self_eq_false,Bool.false_or]at h3
    have h4:=closure_holds (l:=l) (p:=fun j=>listed[j]?=some true) (fun j' p hp hl'=>hM.closed j' p hp hl') l.length (depsOf o) (hM.closed j o hj hlj) i (by simpa using h3)
    rw[Array.getElem?_eq_getElem hlts,hunf]at h4
    simp at h4)
   show a.tmps.getD t undef=_
   rw[Array.getD_eq_getD_getElem?,this,Array.getD_eq_getD_getElem?]
  have hapart:∀(j:Nat) (p:Oper),l[j]?=some p→j≠i→∀d,p.dst=some d→l[i].dst≠some d:=by
   intro j p hp hji d hd hid
   rcases Nat.lt_or_gt_of_ne hji with hh|hh
   ·exact((okD_at l 0 hok j p hp).1 d hd).2 i _ hli hh hid
   ·exact(hdok d hid).2 j p hp hh hd
  refine step_obD hR hget (by rw[hget];exact hli) hob hknow hknow0 hkold hstill fun v w' hb0 hF=>ih _ _ _ ?_ ?_
  ·have hset:∀(j:Nat),(listed.setIfInBounds i true)[j]?=some true→j=i∨listed[j]?=some true:=by
    intro j hj
    by_cases hji:j=i
    ·exact .inl hji
    ·right
     rw[Array.getElem?_setIfInBounds_ne (fun e=>hji e.symm)]at hj
     exact hj
   have hb:R' w w':=by
    by_cases hic:i∈cs
    ·rw[if_pos hic]at hb0;exact hb0
    ·rw[if_neg hic]at hb0;exact hsub _ _ hb0
   refine⟨by simp[hM.size],by rw[put_df];exact hM.df,by rw[put_size];exact hM.tsize,hR'.trans hM.below hb,?_,fun t ht=>?_,fun j o hj hlj=>?_,fun j o hj hlj=>?_⟩
   ·by_cases hic:i∈cs
    ·obtain⟨k,hkb,hk⟩:=List.getElem_of_mem hic
     have hk':cs[k]?=some i:=by rw[List.getElem?_eq_getElem hkb,hk]
     have hkk:=hidx k hk'
     subst hkk
     refine⟨k+1,by omega,fun m c' hm=>?_,fun h=>by omega,fun m c' p' hm hc' hp'=>?_⟩
     ·by_cases hci:c'=i
      ·subst hci
       have hmk:m=k:=(List.getElem?_inj (List.getElem?_eq_some_iff.1 hm).1 hnd).1 (by rw[hm,hk'])
       subst hmk
       simp[hlts]
      ·rw[Array.getElem?_setIfInBounds_ne (fun e=>hci e.symm),hkm m c' hm]
       have:m≠k:=fun e=>hci (by subst e;rw[hm]at hk';injection hk')
       omega
     ·have hmk:m=k:=by omega
      subst hmk
      rw[hk']at hc'
      injection hc' with hc'
      subst hc'
      rw[hli]at hp'
      injection hp' with hp'
      subst hp'
      exact⟨w',hR.refl _,valOf_self a l[i] v (fun d hd=>by rw[hM.tsize];exact(hdok d hd).1) (F i) w' hF (hnu i _ hic hli w w' v trivial hF)⟩
    ·rw[if_neg hic]at hb0
     refine⟨kc,hkl,fun m c' hm=>?_,fun h=>hR.trans (hk0 h) hb0,fun m c' p' hm hc' hp'=>?_⟩
     ·have hci:i≠c':=fun e=>hic (by rw[e];exact List.mem_of_getElem? hm)
      rw[Array.getElem?_setIfInBounds_ne hci]
      exact hkm m c' hm
     ·have hci:c'≠i:=fun e=>hic (by rw[←e];exact List.mem_of_getElem? hc')
      have hlc:listed[c']?=some true:=(hkm m c' hc').2 (by omega)
      rw[valOf_put a p' l[i] v (hapart c' p' hp' hci)]
      exact(hks m c' p' hm hc' hp').more hR hb0
   ·rw[put_get_ne _ _ _ _ (fun e=>?_)]
    ·refine hM.old t fun j o hj hlj=>ht j o hj ?_
     by_cases hji:j=i
     ·subst hji
      simp[hlts]
     ·rw[Array.getElem?_setIfInBounds_ne (fun e=>hji e.symm)];exact hlj
    ·exact ht i _ hli (by simp[hlts]) e
   ·intro k hk
    have hlk:listed[k]?=some true:=by
     by_cases hji:j=i
     ·subst hji
      rw[hli]at hj
      injection hj with hj
      subst hj
      exact hdl k hk
     ·exact hM.closed j o hj ((hset j hlj).resolve_left hji) k hk
    by_cases hki:k=i
    ·subst hki
     simp[hlts]
    ·rw[Array.getElem?_setIfInBounds_ne (fun e=>hki e.symm)]
     exact hlk
   ·by_cases hji:j=i
    ·subst hji
     rw[hli]at hj
     injection hj with hj
     subst hj
     have hself:F j (valOf (a.put l[j].dst v).eval l[j]) w':=valOf_self a l[j] v (fun d hd=>by rw[hM.tsize];exact(hdok d hd).1) (F j) w' hF (fun hn=>by
      by_cases hic:j∈cs
      ·exact hnu j _ hic hli w w' v trivial hF hn
      ·exact absurd hn (hsd j _ hic hli))
     exact⟨⟨w',hR'.refl _,hself⟩,fun _=>⟨w',hR.refl _,hself⟩⟩
    ·have hlj':=(hset j hlj).resolve_left hji
     obtain⟨g3,g4⟩:=hM.facts j o hj hlj'
     rw[valOf_put a o l[i] v (hapart j o hj hji)]
     refine⟨g3.more hR' hb,fun hn=>?_⟩
     have hic:i∉cs:=fun hic=>hn i hic (by simp[hlts])
     rw[if_neg hic]at hb0
     refine(g4 fun c' hc' hl'=>hn c' hc' ?_).more hR hb0
     have hci:i≠c':=fun e=>hic (by rw[e];exact hc')
     rw[Array.getElem?_setIfInBounds_ne hci]
     exact hl'
  ·have hlen:i<listed.toList.length:=by simpa using hlts
   have hcnt:(listed.setIfInBounds i true).toList.count false+1=listed.toList.count false:=by
    rw[Array.toList_setIfInBounds,List.count_set hlen]
    have h3:listed.toList[i]=false:=by simpa using hunf
    rw[h3]
    have hpos:0<listed.toList.count false:=List.count_pos_iff.2 (by rw[←h3];exact List.getElem_mem hlen)
    rw[if_pos (by decide),if_neg (by decide)]
    omega
   omega
def storesIn (l:List Oper) (cs:List Nat):Bool:=(List.range l.length).all fun i=>cs.contains i||match l[i]? with|some o=>o.dst.isSome|none=>true
theorem stores_in {l:List Oper} {cs:List Nat} (h:storesIn l cs=true):∀(i:Nat) o,i∉cs→l[i]?=some o→o.dst≠none:=by
 intro i o hi ho hn
 have:=List.all_eq_true.1 h i (List.mem_range.2 (List.getElem?_eq_some_iff.1 ho).1)
 rw[ho]at this
 simp[hn]at this
 exact hi this
theorem no_stores {l:List Oper} (h:l.all (fun o=>o.dst.isSome)=true) {F:Nat→Value→World→Prop}:∀(i:Nat) v w,(l[i]?).map (·.dst)=some none→F i v w→F i undef w:=by
 intro i v w hd _
 obtain⟨o,ho,hn⟩:=Option.map_eq_some_iff.1 hd
 have:=List.all_eq_true.1 h o (List.mem_of_getElem? ho)
 rw[hn]at this
 cases this
theorem wp_region_factsD {R R':World→World→Prop} (hR:IsExt R) (hR':IsExt R') (hsub:∀a b,R a b→R' a b) (cs:List Nat) (c:Nat) {id:Nat} {l:List Oper} {Q:Exit→Act→World→Prop} {a0:Act} {w0:World} (F:Nat→Value→World→Prop) (hm:P.follows .mixedOrders=true) (hok:okD a0.tmps.size l 0=true)
  (hch:chainOk l cs=true) (hnd:cs.Nodup) (hla:cs[cs.length-1]?=some c) (hlt0:∀x∈cs,x<l.length) (hsd:storesIn l cs=true) (hnu:∀(i:Nat) v w,(l[i]?).map (·.dst)=some none→F i v w→F i undef w)
  (hobs:ObsD R R' P l F a0 w0 cs l 0)
  (hend:∀(vs:Nat→Value) (W:World),R' w0 W→(∀i,i<l.length→WasR R' (F i) (vs i) W)→WasR R (F c) (vs c) W→Q .normal (fillL l 0 vs a0) W):(Code.region id l.toArray true).wp P Q a0 w0:=by
 refine wp_region_any hm (any_of_midD hR hR' hsub rfl hok hch hnd hla hlt0 (stores_in hsd) (fun i o _ ho w w' v _ hF hn=>hnu i v w' (by rw[ho];simp[hn]) hF) hobs hend _ _ _ _ ⟨by simp,rfl,rfl,hR'.drew _,⟨0,by omega,fun m c' hc'=>?_,fun _=>hR.drew _,fun m c' p' h=>by omega⟩,fun t _=>rfl,fun i o hi hl=>?_,fun i o hi hl=>?_⟩ ?_)
 ·rw[Array.getElem?_replicate]
  split<;>simp
 ·exfalso
  rw[Array.getElem?_replicate]at hl
  split at hl<;>simp at hl
 ·exfalso
  rw[Array.getElem?_replicate]at hl
  split at hl<;>simp at hl
 ·rw[Array.toList_replicate]
  refine Nat.le_trans List.count_le_length ?_
  simp
end
end Go.Proofs.YtomppgohoplemaaGreat
