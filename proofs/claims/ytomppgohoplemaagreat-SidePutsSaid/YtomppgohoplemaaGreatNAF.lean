import Derived.Test.YtomppgohoplemaaGreatNAB
import Derived.Test.YtomppgohoplemaaGreatNAE
import Derived.Deep.QuietTactic
import Derived.BigQuiet
set_option linter.unusedVariables false
namespace Go.Proofs.YtomppgohoplemaaGreat
open Go.RowKit
def closureOf (l:List Oper):Nat→List Nat→List Nat
 | 0,acc=>acc
 | n+1,acc=>if acc.contains n then closureOf l n (acc++((l[n]?).map depsOf).getD [])else closureOf l n acc
def lastB (l:List Oper) (o:Oper):Bool :=
 (List.range l.length).all (fun i=>(closureOf l l.length (depsOf o)).contains i)&&(depsOf o).all (fun j=>decide (j<l.length))&&o.guard.isNone&&l.all (fun p=>match p.guard with|some (g,_)=>decide (g<l.length)|none=>true)
theorem closure_holds {l:List Oper} {p:Nat→Prop} (hd:∀(i:Nat) o,l[i]?=some o→p i→∀j,j∈depsOf o→p j):∀(n:Nat) (acc:List Nat),(∀i∈acc,p i)→∀i∈closureOf l n acc,p i:=by
 intro n
 induction n with
 | zero=>intro acc h;exact h
 | succ n ih =>
  intro acc h
  unfold closureOf
  split
  ·rename_i hc
   refine ih _ fun i hi=>?_
   rcases List.mem_append.1 hi with hi|hi
   ·exact h i hi
   ·cases ho:l[n]? with
    | none=>rw[ho]at hi;simp at hi
    | some o =>
     rw[ho]at hi
     exact hd n o ho (h n (by simpa using hc)) i (by simpa using hi)
  ·exact ih _ h
section
variable {P:Program}
theorem wp_monoQ {o:Oper} {a:Act} {w:World} {K K':Act→World→Prop} {Q Q':Exit→Act→World→Prop} (hK:∀a w,K a w→K' a w) (hQ:∀e a w,e≠.normal→Q' e a w→Q e a w) (h:o.wp P a w K Q'):o.wp P a w K' Q:=by
 unfold Oper.wp at *
 generalize (execOp a.eval o).run P w=r at *
 cases r with
 | ok n w' =>
  cases n with
  | value v=>exact hK _ _ h
  | skip=>exact hK _ _ h
  | defer d=>exact hK _ _ h
  | enter f args =>
   refine Calls.mono h fun e w'' hh=>?_
   cases e with
   | returned v=>exact hK _ _ hh
   | panicked c=>exact hQ _ _ _ (by simp) hh
   | outgrown=>obtain⟨a1,w1,h1⟩:=hh;exact⟨a1,w1,hQ _ _ _ (by simp) h1⟩
  | row row args=>exact Rows.mono h fun v w'' hh=>hK _ _ hh
  | _=>exact h
 | halt x w' =>
  cases x with
  | panic v=>exact hQ _ _ _ (by simp) h
  | _=>exact h
def TailQ (P:Program) (o:Oper) (Q:Exit→Act→World→Prop):Exit→Act→World→Prop
 | .normal,a,w=>o.wp P a w (fun a' w'=>Q .normal a' w') Q∨(o.asks P a w∧LetsOut Q)
 | _,_,_=>False
theorem getD_push {listed:Array Bool} {b d:Bool} {i:Nat} (h:i<listed.size):(listed.push b).getD i d=listed.getD i d:=by
 simp[Array.getD,Nat.lt_succ_of_lt h,h,Array.getElem_push_lt h]
theorem any_tail {Q:Exit→Act→World→Prop} {l:List Oper} {o:Oper} {n:Nat} (hok:okB n l 0=true) (hlast:lastB l o=true) :
  ∀(fuel:Nat) (listed:Array Bool) (a:Act) (w:World),listed.size=l.length→(∀(i:Nat) p,l[i]?=some p→listed[i]?=some true→∀j∈depsOf p,listed[j]?=some true) →
   wpAny P .any l.toArray (TailQ P o Q) fuel listed a w→wpAny P .any (l++[o]).toArray Q (fuel+1) (listed.push false) a w:=by
 simp only[lastB,Bool.and_eq_true]at hlast
 obtain⟨⟨⟨hcl,hdl⟩,hgd⟩,hgs⟩:=hlast
 rw[Option.isNone_iff_eq_none]at hgd
 have hlen:(l++[o]).toArray.size=l.length+1:=by simp
 have hgetl:∀i,i<l.length→(l++[o]).toArray[i]?=l[i]?:=fun i hi=>by simp[List.getElem?_append_left hi]
 have hgeto:(l++[o]).toArray[l.length]?=some o:=by simp
 have hbd:∀e∈o.after.toList,Region.binds .any e=true→e.on<l.length:=fun e he hb=>by
  have:=List.all_eq_true.1 hdl e.on (List.mem_map.2 ⟨e,List.mem_filter.2 ⟨he,hb⟩,rfl⟩)
  simpa using this
 have ho_all:∀(listed:Array Bool),listed.size=l.length→(∀(i:Nat) p,l[i]?=some p→listed[i]?=some true→∀j∈depsOf p,listed[j]?=some true) →
   (∀j∈depsOf o,listed[j]?=some true)→∀i,i<l.length→listed[i]?=some true:=by
  intro listed hs hdc hd i hi
  have hc:=List.all_eq_true.1 hcl i (List.mem_range.2 hi)
  exact closure_holds (p:=fun i=>listed[i]?=some true) (fun i p hp hi=>hdc i p hp hi) l.length (depsOf o) hd i (by simpa using hc)
 have none_ready:∀(listed:Array Bool),listed.size=l.length→Region.ready .any l.toArray listed=[]→∀i,i<l.length→listed[i]?=some true:=by
  intro listed hs hr i
  induction i using Nat.strongRecOn with
  | ind i ih =>
   intro hi
   have hli:l[i]?=some l[i]:=List.getElem?_eq_getElem hi
   obtain⟨_,hdep⟩:=okB_at l 0 hok i _ hli
   have hls:i<listed.size:=by rw[hs];exact hi
   cases hv:listed[i] with
   | true=>rw[Array.getElem?_eq_getElem hls,hv]
   | false =>
    exfalso
    have hmem:i∈Region.ready .any l.toArray listed:=by
     unfold Region.ready
     refine List.mem_filter.2 ⟨List.mem_range.2 (by simpa using hi),?_⟩
     have h1:listed.getD i true=false:=by simp[Array.getD,hls,hv]
     rw[h1,show l.toArray[i]?=some l[i]from by simp[hli]]
     simp only[Bool.not_false,Bool.true_and,Option.map_some,Option.getD_some]
     rw[Array.all_eq_true']
     intro e he
     cases hbn:Region.binds .any e with
     | false=>rfl
     | true =>
      have hj:e.on∈depsOf l[i]:=List.mem_map.2 ⟨e,List.mem_filter.2 ⟨by simpa using he,hbn⟩,rfl⟩
      have hlt:=hdep _ hj
      have:=ih e.on (by omega) (by omega)
      simp[Array.getD_eq_getD_getElem?,this]
    rw[hr]at hmem
    cases hmem
 have pushed:∀(listed:Array Bool),listed.size=l.length→∀i,i<l.length→(listed.push false)[i]?=listed[i]?:=by
  intro listed hs i hi
  rw[Array.getElem?_push_lt (by omega),Array.getElem?_eq_getElem (by omega)]
 have at_last:∀(fuel:Nat) (listed:Array Bool) (a:Act) (w:World),listed.size=l.length→(∀i,i<l.length→listed[i]?=some true)→TailQ P o Q .normal a w →
   wpOp P (l++[o]).toArray Q l.length (wpAny P .any (l++[o]).toArray Q fuel ((listed.push false).setIfInBounds l.length true)) a w:=by
  intro fuel listed a w hs hall hq
  unfold wpOp
  rw[hgeto]
  simp only
  rw[if_pos (by simp[Region.wanted,hgd])]
  rcases hq with hq|hq
  case inr=>exact .inr hq
  left
  have hnr:Region.ready .any (l++[o]).toArray ((listed.push false).setIfInBounds l.length true)=[]:=by
   apply List.eq_nil_iff_forall_not_mem.2
   intro i hi
   obtain⟨h1,h2⟩:=List.mem_filter.1 hi
   have hlt:i<l.length+1:=by rw[←hlen];exact List.mem_range.1 h1
   simp only[Bool.and_eq_true,Bool.not_eq_true']at h2
   have h3:=h2.1
   rw[Array.getD_eq_getD_getElem?]at h3
   by_cases hil:i=l.length
   ·subst hil
    rw[Array.getElem?_setIfInBounds_self_of_lt (by simp;omega)]at h3
    simp at h3
   ·rw[Array.getElem?_setIfInBounds_ne (fun e=>hil e.symm),pushed _ hs i (by omega),hall i (by omega)]at h3
    simp at h3
  refine Oper.wp_mono (fun a' w' hq'=>?_) hq
  cases fuel with
  | zero=>exact⟨hnr,hq'⟩
  | succ f=>exact⟨fun _=>hq',fun i hi=>by rw[hnr]at hi;cases hi⟩
 have notempty:∀(listed:Array Bool),listed.size=l.length→Region.ready .any (l++[o]).toArray (listed.push false)=[]→False:=by
  intro listed hs hr
  have hr2:Region.ready .any l.toArray listed=[]:=by
   apply List.eq_nil_iff_forall_not_mem.2
   intro i hi
   obtain⟨h1,h2⟩:=List.mem_filter.1 hi
   have hil:i<l.length:=by simpa using List.mem_range.1 h1
   have:i∈Region.ready .any (l++[o]).toArray (listed.push false):=by
    refine List.mem_filter.2 ⟨List.mem_range.2 (by rw[hlen];omega),?_⟩
    rw[hgetl i hil,getD_push (by omega)]
    rw[show l.toArray[i]?=l[i]? from by simp]at h2
    have hli:l[i]?=some l[i]:=List.getElem?_eq_getElem hil
    rw[hli]at h2 ⊢
    simp only[Bool.and_eq_true,Option.map_some,Option.getD_some]at h2 ⊢
    refine⟨h2.1,?_⟩
    rw[Array.all_eq_true']at h2 ⊢
    intro e he
    have h3:=h2.2 e he
    simp only[Bool.or_eq_true,Bool.not_eq_true']at h3 ⊢
    rcases h3 with h3|h3
    ·exact .inl h3
    ·right
     by_cases hlt:e.on<listed.size
     ·rw[getD_push hlt];exact h3
     ·simp[Array.getD,hlt]at h3
   rw[hr]at this
   cases this
  have hall:=none_ready listed hs hr2
  have:l.length∈Region.ready .any (l++[o]).toArray (listed.push false):=by
   refine List.mem_filter.2 ⟨List.mem_range.2 (by rw[hlen];omega),?_⟩
   rw[hgeto]
   have h1:(listed.push false).getD l.length true=false:=by
    rw[Array.getD_eq_getD_getElem?,←hs,Array.getElem?_push_size]
    rfl
   rw[h1]
   simp only[Bool.not_false,Bool.true_and,Option.map_some,Option.getD_some]
   rw[Array.all_eq_true']
   intro e he
   cases hbn:Region.binds .any e with
   | false=>rfl
   | true =>
    have:=hbd e (by simpa using he) hbn
    simp[Array.getD_eq_getD_getElem?,pushed _ hs _ this,hall _ this]
  rw[hr]at this
  cases this
 have last_ready:∀(listed:Array Bool),listed.size=l.length→l.length∈Region.ready .any (l++[o]).toArray (listed.push false)→∀j∈depsOf o,listed[j]?=some true:=by
  intro listed hs hi j hj
  obtain⟨_,h2⟩:=List.mem_filter.1 hi
  rw[hgeto]at h2
  simp only[Bool.and_eq_true,Option.map_some,Option.getD_some]at h2
  obtain⟨e,he,rfl⟩:=List.mem_map.1 hj
  obtain⟨he1,he2⟩:=List.mem_filter.1 he
  have h3:=Array.all_eq_true'.1 h2.2 e (by simpa using he1)
  rw[he2]at h3
  simp only[Bool.not_true,Bool.false_or]at h3
  have hlt:=hbd e he1 he2
  rw[getD_push (by omega),Array.getD_eq_getD_getElem?]at h3
  cases hx:listed[e.on]? with
  | none=>rw[hx]at h3;simp at h3
  | some b=>rw[hx]at h3;simp at h3;rw[h3]
 intro fuel
 induction fuel with
 | zero =>
  intro listed a w hs hdc h
  have hall:=none_ready listed hs h.1
  refine⟨fun hr=>(notempty listed hs hr).elim,fun i hi=>?_⟩
  have hil:i=l.length:=by
   apply Decidable.byContradiction
   intro hne
   obtain⟨h1,h2⟩:=List.mem_filter.1 hi
   have hlt:i<l.length+1:=by rw[←hlen];exact List.mem_range.1 h1
   simp only[Bool.and_eq_true,Bool.not_eq_true']at h2
   have h3:=h2.1
   rw[getD_push (by omega),Array.getD_eq_getD_getElem?,hall i (by omega)]at h3
   simp at h3
  subst hil
  exact at_last 0 listed a w hs hall h.2
 | succ fuel ih =>
  intro listed a w hs hdc h
  refine⟨fun hr=>(notempty listed hs hr).elim,fun i hi=>?_⟩
  by_cases hil:i=l.length
  ·subst hil
   have hall:=ho_all listed hs hdc (last_ready listed hs hi)
   refine at_last (fuel+1) listed a w hs hall (h.1 ?_)
   apply List.eq_nil_iff_forall_not_mem.2
   intro j hj
   obtain⟨h1,h2⟩:=List.mem_filter.1 hj
   have hlt:j<l.length:=by simpa using List.mem_range.1 h1
   simp only[Bool.and_eq_true,Bool.not_eq_true']at h2
   have h3:=h2.1
   rw[Array.getD_eq_getD_getElem?,hall j hlt]at h3
   simp at h3
  ·obtain⟨h1,h2⟩:=List.mem_filter.1 hi
   have hlt:i<l.length:=by
    have:i<l.length+1:=by rw[←hlen];exact List.mem_range.1 h1
    omega
   have hli:l[i]?=some l[i]:=List.getElem?_eq_getElem hlt
   have hdl':∀j∈depsOf l[i],listed[j]?=some true:=by
    intro j hj
    rw[hgetl i hlt,hli]at h2
    simp only[Bool.and_eq_true,Option.map_some,Option.getD_some]at h2
    obtain⟨e,he,rfl⟩:=List.mem_map.1 hj
    obtain⟨he1,he2⟩:=List.mem_filter.1 he
    have h3:=Array.all_eq_true'.1 h2.2 e (by simpa using he1)
    rw[he2]at h3
    simp only[Bool.not_true,Bool.false_or]at h3
    have hjl:=(okB_at l 0 hok i _ hli).2 e.on hj
    rw[getD_push (by omega),Array.getD_eq_getD_getElem?]at h3
    cases hx:listed[e.on]? with
    | none=>rw[hx]at h3;simp at h3
    | some b=>rw[hx]at h3;simp at h3;rw[h3]
   have hmem:i∈Region.ready .any l.toArray listed:=by
    refine List.mem_filter.2 ⟨List.mem_range.2 (by simpa using hlt),?_⟩
    rw[show l.toArray[i]?=l[i]? from by simp]
    rw[hgetl i hlt,getD_push (by omega)]at h2
    rw[hli]at h2 ⊢
    simp only[Bool.and_eq_true,Option.map_some,Option.getD_some]at h2 ⊢
    refine⟨h2.1,?_⟩
    rw[Array.all_eq_true']
    intro e he
    cases hbn:Region.binds .any e with
    | false=>rfl
    | true =>
     have:=hdl' e.on (List.mem_map.2 ⟨e,List.mem_filter.2 ⟨by simpa using he,hbn⟩,rfl⟩)
     simp[Array.getD_eq_getD_getElem?,this]
   have hstep:=h.2 i hmem
   have hset:(listed.push false).setIfInBounds i true=(listed.setIfInBounds i true).push false:=by
    apply Array.ext_getElem?
    intro j
    by_cases hji:j=i
    ·subst hji
     rw[Array.getElem?_setIfInBounds_self_of_lt (by simp;omega),Array.getElem?_push_lt (by simp;omega),Array.getElem_setIfInBounds_self (by simpa using (by omega))]
    ·rw[Array.getElem?_setIfInBounds_ne (fun e=>hji e.symm),Array.getElem?_push,Array.getElem?_push,Array.size_setIfInBounds,Array.getElem?_setIfInBounds_ne (fun e=>hji e.symm)]
   rw[hset]
   have hK:∀a' w',wpAny P .any l.toArray (TailQ P o Q) fuel (listed.setIfInBounds i true) a' w'→wpAny P .any (l++[o]).toArray Q (fuel+1) ((listed.setIfInBounds i true).push false) a' w':=by
    intro a' w' hh
    refine ih _ a' w' (by simpa using hs) (fun k p hp hk j hj=>?_) hh
    by_cases hki:k=i
    ·subst hki
     rw[hli]at hp
     injection hp with hp
     subst hp
     have hjk:=(okB_at l 0 hok k _ hli).2 j hj
     rw[Array.getElem?_setIfInBounds_ne (by omega)]
     exact hdl' j hj
    ·rw[Array.getElem?_setIfInBounds_ne (fun e=>hki e.symm)]at hk
     have:=hdc k p hp hk j hj
     by_cases hji:j=i
     ·subst hji
      rw[Array.getElem?_setIfInBounds_self_of_lt (by omega)]
     ·rw[Array.getElem?_setIfInBounds_ne (fun e=>hji e.symm)]
      exact this
   unfold wpOp at hstep ⊢
   rw[show l.toArray[i]?=some l[i]from by simp[hli]]at hstep
   rw[hgetl i hlt,hli]
   simp only at hstep ⊢
   have hw:Region.wanted l[i] (yielded (l++[o]).toArray a.tmps)=Region.wanted l[i] (yielded l.toArray a.tmps):=by
    unfold Region.wanted
    cases hg:l[i].guard with
    | none=>rfl
    | some gw =>
     obtain⟨g,want⟩:=gw
     have hgl:g<l.length:=by
      have:=List.all_eq_true.1 hgs l[i] (List.getElem_mem hlt)
      rw[hg]at this
      simpa using this
     simp only[yielded,hgetl g hgl]
     rw[show l.toArray[g]?=l[g]? from by simp]
   rw[hw]
   split
   ·rename_i hwt
    rw[if_pos hwt]at hstep
    rcases hstep with hstep|⟨_,a1,w1,hf⟩
    ·exact .inl (wp_monoQ hK (fun e a w hne hf=>by cases e<;>first|exact absurd rfl hne|exact hf.elim) hstep)
    ·exact hf.elim
   ·rename_i hwt
    rw[if_neg hwt]at hstep
    exact hK _ _ hstep
theorem wp_region_last {R:World→World→Prop} (hR:IsExt R) {id:Nat} {l:List Oper} {o:Oper} {Q:Exit→Act→World→Prop} {a0:Act} {w0:World} (F:Nat→Value→World→Prop) (hm:P.follows .mixedOrders=true) (hok:okB a0.tmps.size l 0=true) (hlast:lastB l o=true)
  (hobs:ObsR R P l F a0 w0 l 0)
  (hend:∀(vs:Nat→Value) (W:World),R w0 W→(∀i,i<l.length→WasR R (F i) (vs i) W)→wpList P #[o] Q [o] (fillL l 0 vs a0) W):(Code.region id (l++[o]).toArray true).wp P Q a0 w0:=by
 refine wp_region_any hm ?_
 have h1:wpAny P .any l.toArray (TailQ P o Q) l.length (Array.replicate l.length false) a0 w0.drew:=by
  have hgd:o.guard=none:=by
   simp only[lastB,Bool.and_eq_true]at hlast
   exact Option.isNone_iff_eq_none.1 hlast.1.2
  have hend':∀(vs:Nat→Value) (W:World),R w0 W→(∀i,i<l.length→WasR R (F i) (vs i) W)→TailQ P o Q .normal (fillL l 0 vs a0) W:=by
   intro vs W h1 h2
   have h3:=hend vs W h1 h2
   unfold wpList at h3
   rw[if_pos (by simp[Region.wanted,hgd])]at h3
   exact h3
  refine any_of_mid hR rfl hok hobs hend' _ _ _ _ ⟨by simp,rfl,rfl,hR.drew _,fun t _=>rfl,fun i o hi hl=>?_⟩ ?_
  ·exfalso
   rw[Array.getElem?_replicate]at hl
   split at hl<;>simp at hl
  ·rw[Array.toList_replicate]
   exact Nat.le_trans List.count_le_length (by simp)
 have h2:=any_tail (Q:=Q) hok hlast l.length _ a0 w0.drew (by simp) (fun i p hp hl=>by
  exfalso
  rw[Array.getElem?_replicate]at hl
  split at hl<;>simp at hl) h1
 have e1:(l++[o]).toArray.size=l.length+1:=by simp
 have e2:(Array.replicate l.length false).push false=Array.replicate (l.length+1) false:=by
  rw[←Array.replicate_succ]
 rw[e1,←e2]
 exact h2
section
variable {o:Oper} {ρ:Operand→Value} {W W':World} {post:Value→World→Prop} {v:Value}
theorem OpOut.fieldAddr {t:TypeId} {x:Operand} {f:Nat} {u:Value} (ho:o.op=.fieldAddr t x f) (hx:ρ x=u) (hr:(Instr.fieldAt t u f).run P W=.ok v W) (h:post v W):OpOut P o ρ W post :=
 ⟨by unfold execOp;rw[ho];simp only[hx,Sem.run_bind,Sem.run_pure,hr,Result.andThen_ok];exact h⟩
theorem OpOut.load {t:TypeId} {x:Operand} {u:Value} (ho:o.op=.load t x) (hx:ρ x=u) (hr:(Instr.loadAt t u).run P W=.ok v W) (h:post v W):OpOut P o ρ W post :=
 ⟨by unfold execOp;rw[ho];simp only[hx,Sem.run_bind,Sem.run_pure,hr,Result.andThen_ok];exact h⟩
theorem OpOut.nilCheck {x:Operand} {p:Addr} (ho:o.op=.nilCheck x) (hx:ρ x=.pointer (some p)) (h:post (.pointer (some p)) W):OpOut P o ρ W post :=
 ⟨by unfold execOp;rw[ho];simp only[hx,Sem.run_pure];exact h⟩
theorem OpOut.buildSlice {t:TypeId} {n:Nat} {xs:Array (Nat×Operand)} {us:Array (Nat×Value)} (ho:o.op=.buildSlice t n xs) (hx:(xs.map fun (i,x)=>(i,ρ x))=us) (hr:(Instr.buildSlice t n us).run P W=.ok v W') (h:post v W'):OpOut P o ρ W post :=
 ⟨by unfold execOp;rw[ho];simp only[hx,Sem.run_bind,Sem.run_pure,hr,Result.andThen_ok];exact h⟩
theorem OpOut.build {t:TypeId} {xs:Array (Nat×Operand)} {us:Array (Nat×Value)} (ho:o.op=.build t xs) (hx:(xs.map fun (i,x)=>(i,ρ x))=us) (hr:(Instr.build t us).run P W=.ok v W') (h:post v W'):OpOut P o ρ W post :=
 ⟨by unfold execOp;rw[ho];simp only[hx,Sem.run_bind,Sem.run_pure,hr,Result.andThen_ok];exact h⟩
theorem OpOut.append {s x:Operand} {t:TypeId} {a b:Value} (ho:o.op=.call { callee:=.builtin .append,args:=#[s,x],argTypes:=#[t,t] }) (hs:ρ s=a) (hx:ρ x=b) (hr:(Builtin.append_ #[t,t] o.type #[a,b]).run P W=.ok v W') (h:post v W'):OpOut P o ρ W post :=
 ⟨by unfold execOp;simp only[ho,resolve,invoke,builtin,Sem.run_bind,Sem.run_pure,Result.andThen_ok,List.map_toArray,List.map_cons,List.map_nil,hs,hx,hr];exact h⟩
end
end
structure OpRow.Ok (r:OpRow):Prop where
 ta:∀i (h:i<r.takes.size),(r.takes[i]).toNat<128
 tl:r.takes.size≤3
 ga:∀i (h:i<r.gives.size),(r.gives[i]).toNat<128
 gl:r.gives.size≤1
def InfoPost (r:OpRow) (w:World) (e:Ending) (w':World):Prop :=
 ∃A1 c1 A2 c2,e=.returned (.agg #[.int .i64 r.code,.string r.name,.int .i64 r.form,.slice A1 r.takes.size c1,.slice A2 r.gives.size c2]) ∧
  Hid (w'.ownsRow w.heap.size 133 1 (.slice A1 r.takes.size c1) r.takes.size ((typesL r.takes).map B))∧Hid (w'.ownsRow w.heap.size 133 1 (.slice A2 r.gives.size c2) r.gives.size ((typesL r.gives).map B))∧Hid (Below w.heap.size w w')
set_option maxRecDepth 100000 in
set_option maxHeartbeats 1600000 in
theorem info_any (r:OpRow) (hr:Hid r.Ok) (w:World) :
  Calls Tryz.prog 126 #[.agg #[.int .i64 r.code,.string r.name,.int .i64 r.form,.string r.takes,.string r.gives]] w (InfoPost r w):=by
 have H1:Hid (∀i (h:i<r.takes.size),(r.takes[i]).toNat<128):=hr.out.ta
 have H2:Hid (∀i (h:i<r.gives.size),(r.gives[i]).toNat<128):=hr.out.ga
 have hl1:r.takes.size≤1000:=by have:=hr.out.tl;omega
 have hl2:r.gives.size≤1000:=by have:=hr.out.gl;omega
 go_enter Tryz.func126,Tryz.ntmps126
 go_wp2_with fail
 obtain⟨W,hW⟩:∃W,((w.alloc (.cells #[.int .i64 r.code,.string r.name,.int .i64 r.form,.string r.takes,.string r.gives] 217)).alloc (.cells #[.int .i64 0,.string ⟨#[]⟩,.int .i64 0,.slice none 0 0,.slice none 0 0] 199))=W:=⟨_,rfl⟩
 have hbW:Below w.heap.size w W:=by rw[←hW];exact((Below.refl _ _).alloc (Nat.le_refl _) _).alloc (by simp) _
 obtain⟨gb,hgb⟩:∃gb,w.heap.size=gb:=⟨_,rfl⟩
 have hblk:W.heap[gb]?=some (.cells #[.int .i64 r.code,.string r.name,.int .i64 r.form,.string r.takes,.string r.gives] 217 (0,0)):=by
  rw[←hW,←hgb,Below.heap_alloc _ _ _ (by simp)]
  exact heap_alloc_new w _
 have hblk2:W.heap[gb+1]?=some (.cells #[.int .i64 0,.string ⟨#[]⟩,.int .i64 0,.slice none 0 0,.slice none 0 0] 199 (0,0)):=by
  rw[←hW,←hgb]
  have:=heap_alloc_new (w.alloc (.cells #[.int .i64 r.code,.string r.name,.int .i64 r.form,.string r.takes,.string r.gives] 217)) (.cells #[.int .i64 0,.string ⟨#[]⟩,.int .i64 0,.slice none 0 0,.slice none 0 0] 199)
  simpa using this
 have hsz:W.heap.size=gb+2:=by rw[←hW,←hgb];simp
 rw[hW,hgb]
 rw[hgb]at hbW
 have HB:=hide hbW
 have HG:=hide hgb
 have HSZ:=hide hsz
 have HCC:CellsOf W (gb+2) gb _:=CellsOf.of hblk (by omega)
 have HK2:=hide hblk2
 clear hbW hW hgb hsz hblk hblk2
 refine wp_region_last (l:=[_,_,_,_,_,_,_,_,_,_,_,_,_]) (o:=_) grew_ext (factsOf [fun yy _=>yy=.pointer (some ⟨gb,0,none⟩),
  fun yy _=>yy=.int .i64 r.code,
  fun yy _=>yy=.pointer (some ⟨gb,1,none⟩),
  fun yy _=>yy=.string r.name,
  fun yy _=>yy=.pointer (some ⟨gb,2,none⟩),
  fun yy _=>yy=.int .i64 r.form,
  fun yy _=>yy=.pointer (some ⟨gb,3,none⟩),
  fun yy _=>yy=.string r.takes,
  fun yy WW=>∃A1 c1,yy=.slice A1 r.takes.size c1∧WW.ownsRow (gb+2) 133 1 (.slice A1 r.takes.size c1) r.takes.size ((typesL r.takes).map B),
  fun yy _=>yy=.pointer (some ⟨gb,4,none⟩),
  fun yy _=>yy=.string r.gives,
  fun yy WW=>∃A1 c1,yy=.slice A1 r.gives.size c1∧WW.ownsRow (gb+2) 133 1 (.slice A1 r.gives.size c1) r.gives.size ((typesL r.gives).map B),
  fun yy WW=>∃A1 c1 A2 c2,yy=.agg #[.int .i64 r.code,.string r.name,.int .i64 r.form,.slice A1 r.takes.size c1,.slice A2 r.gives.size c2]∧WW.ownsRow (gb+2) 133 1 (.slice A1 r.takes.size c1) r.takes.size ((typesL r.takes).map B)∧WW.ownsRow (gb+2) 133 1 (.slice A2 r.gives.size c2) r.gives.size ((typesL r.gives).map B)]) (by kernel_rfl) (by kernel_rfl) (by kernel_rfl) ?_ ?_
 ·refine⟨?_,?_,?_,?_,?_,?_,?_,?_,?_,?_,?_,?_,?_,trivial⟩
  ·refine⟨fun ρ W hk=>?_⟩
   have o1:ρ (.tmp 1)=.pointer (some ⟨gb,0,none⟩):=hk.old 1 (by decide)
   exact OpOut.fieldAddr (x:=.tmp 1) rfl o1 (by go_simp) ⟨Below.refl _ _,rfl⟩
  ·refine⟨fun ρ W hk=>?_⟩
   have h0:=(hk.fact 0 3 (by decide) rfl).pure
   have hc:=HCC.out W hk.below 0 (.int .i64 r.code) rfl
   exact OpOut.load (x:=.tmp 3) rfl h0 (by go_simp) ⟨Below.refl _ _,rfl⟩
  ·refine⟨fun ρ W hk=>?_⟩
   have o1:ρ (.tmp 1)=.pointer (some ⟨gb,0,none⟩):=hk.old 1 (by decide)
   exact OpOut.fieldAddr (x:=.tmp 1) rfl o1 (by go_simp) ⟨Below.refl _ _,rfl⟩
  ·refine⟨fun ρ W hk=>?_⟩
   have h2:=(hk.fact 2 5 (by decide) rfl).pure
   have hc:=HCC.out W hk.below 1 (.string r.name) rfl
   exact OpOut.load (x:=.tmp 5) rfl h2 (by go_simp) ⟨Below.refl _ _,rfl⟩
  ·refine⟨fun ρ W hk=>?_⟩
   have o1:ρ (.tmp 1)=.pointer (some ⟨gb,0,none⟩):=hk.old 1 (by decide)
   exact OpOut.fieldAddr (x:=.tmp 1) rfl o1 (by go_simp) ⟨Below.refl _ _,rfl⟩
  ·refine⟨fun ρ W hk=>?_⟩
   have h4:=(hk.fact 4 7 (by decide) rfl).pure
   have hc:=HCC.out W hk.below 2 (.int .i64 r.form) rfl
   exact OpOut.load (x:=.tmp 7) rfl h4 (by go_simp) ⟨Below.refl _ _,rfl⟩
  ·refine⟨fun ρ W hk=>?_⟩
   have o1:ρ (.tmp 1)=.pointer (some ⟨gb,0,none⟩):=hk.old 1 (by decide)
   exact OpOut.fieldAddr (x:=.tmp 1) rfl o1 (by go_simp) ⟨Below.refl _ _,rfl⟩
  ·refine⟨fun ρ W hk=>?_⟩
   have h6:=(hk.fact 6 9 (by decide) rfl).pure
   have hc:=HCC.out W hk.below 3 (.string r.takes) rfl
   exact OpOut.load (x:=.tmp 9) rfl h6 (by go_simp) ⟨Below.refl _ _,rfl⟩
  ·refine⟨fun ρ W hk=>?_⟩
   have h7:=(hk.fact 7 10 (by decide) rfl).pure
   refine OpOut.fn (args:=#[.string r.takes]) rfl (hk.func _) (by simp[h7]) Tryz.func148 (by kernel_rfl) rfl ?_
   have hz:=HCC.size W hk.below
   refine(opTypes_any r.takes W H1 hl1).mono ?_;rintro e w5 ⟨A5,c5,rfl,ho5,hb5⟩
   exact⟨_,rfl,hb5.out,A5,c5,rfl,own_base ho5.out (fun q hq=>by have:=own_ge ho5.out q hq;omega)⟩
  ·refine⟨fun ρ W hk=>?_⟩
   have o1:ρ (.tmp 1)=.pointer (some ⟨gb,0,none⟩):=hk.old 1 (by decide)
   exact OpOut.fieldAddr (x:=.tmp 1) rfl o1 (by go_simp) ⟨Below.refl _ _,rfl⟩
  ·refine⟨fun ρ W hk=>?_⟩
   have h9:=(hk.fact 9 12 (by decide) rfl).pure
   have hc:=HCC.out W hk.below 4 (.string r.gives) rfl
   exact OpOut.load (x:=.tmp 12) rfl h9 (by go_simp) ⟨Below.refl _ _,rfl⟩
  ·refine⟨fun ρ W hk=>?_⟩
   have h10:=(hk.fact 10 13 (by decide) rfl).pure
   refine OpOut.fn (args:=#[.string r.gives]) rfl (hk.func _) (by simp[h10]) Tryz.func148 (by kernel_rfl) rfl ?_
   have hz:=HCC.size W hk.below
   refine(opTypes_any r.gives W H2 hl2).mono ?_;rintro e w5 ⟨A5,c5,rfl,ho5,hb5⟩
   exact⟨_,rfl,hb5.out,A5,c5,rfl,own_base ho5.out (fun q hq=>by have:=own_ge ho5.out q hq;omega)⟩
  ·refine⟨fun ρ W hk=>?_⟩
   have h1:=(hk.fact 1 4 (by decide) rfl).pure
   have h3:=(hk.fact 3 6 (by decide) rfl).pure
   have h5:=(hk.fact 5 8 (by decide) rfl).pure
   obtain⟨w8,hw8,A8,c8,h8,ho8⟩:=hk.fact 8 11 (by decide) rfl
   obtain⟨w11,hw11,A11,c11,h11,ho11⟩:=hk.fact 11 14 (by decide) rfl
   exact OpOut.build (us:=#[(0,.int .i64 r.code),(1,.string r.name),(2,.int .i64 r.form),(3,.slice A8 r.takes.size c8),(4,.slice A11 r.gives.size c11)]) rfl (by simp[h1,h3,h5,h8,h11]) (by go_simp) ⟨Below.refl _ _,A8,c8,A11,c11,rfl,own_only3 (S:=[]) ho8 (Only.of_below hw8) (by simp),own_only3 (S:=[]) ho11 (Only.of_below hw11) (by simp)⟩
 ·intro vs W2 hb hf
  obtain⟨w12,hw12,A1,c1,A2,c2,h12,ho1,ho2⟩:=hf 12 (by decide)
  clear hf
  simp only[fillL]
  rw[h12]
  generalize vs 0=v0,vs 1=v1,vs 2=v2,vs 3=v3,vs 4=v4,vs 5=v5,vs 6=v6,vs 7=v7,vs 8=v8,vs 9=v9,vs 10=v10,vs 11=v11
  have hown1:=hide (own_only3 (S:=[]) ho1 (Only.of_below hw12) (by simp))
  have hown2:=hide (own_only3 (S:=[]) ho2 (Only.of_below hw12) (by simp))
  clear hw12 ho1 ho2
  have hsz2:=hb.size
  rw[HSZ.out]at hsz2
  have hblk3:=(hb.block (gb+1) (by rw[HSZ.out];omega)).trans HK2.out
  have e0:W2.cell? ⟨gb+1,0,none⟩=some (.int .i64 0):=cell_blk hblk3 0
  have e1:W2.cell? ⟨gb+1,1,none⟩=some (.string ⟨#[]⟩):=cell_blk hblk3 1
  have e2:W2.cell? ⟨gb+1,2,none⟩=some (.int .i64 0):=cell_blk hblk3 2
  have e3:W2.cell? ⟨gb+1,3,none⟩=some (.slice none 0 0):=cell_blk hblk3 3
  have e4:W2.cell? ⟨gb+1,4,none⟩=some (.slice none 0 0):=cell_blk hblk3 4
  have z0:=frozen_blk hblk3 0
  have z1:=frozen_blk hblk3 1
  have z2:=frozen_blk hblk3 2
  have z3:=frozen_blk hblk3 3
  have z4:=frozen_blk hblk3 4
  clear hblk3 h12
  go_frame
  go_wp2_with fail
  have hs5:∀(V:World) (i:Nat) (x:Value),Only [gb+1] V (V.setCell ⟨gb+1,i,none⟩ x):=fun V i x=>Only.setCell V (p:=⟨gb+1,i,none⟩) (by simp) x
  have ho5:=(((((hs5 W2 0 (.int .i64 r.code))).trans (hs5 _ 1 (.string r.name))).trans (hs5 _ 2 (.int .i64 r.form))).trans (hs5 _ 3 (.slice A1 r.takes.size c1))).trans (hs5 _ 4 (.slice A2 r.gives.size c2))
  have hblk4:=(hb.block (gb+1) (by rw[HSZ.out];omega)).trans HK2.out
  have hbF:=setCell_blk (setCell_blk (setCell_blk (setCell_blk (setCell_blk hblk4 0 (.int .i64 r.code)) 1 (.string r.name)) 2 (.int .i64 r.form)) 3 (.slice A1 r.takes.size c1)) 4 (.slice A2 r.gives.size c2)
  generalize ((((W2.setCell ⟨gb+1,0,none⟩ (.int .i64 r.code)).setCell ⟨gb+1,1,none⟩ (.string r.name)).setCell ⟨gb+1,2,none⟩ (.int .i64 r.form)).setCell ⟨gb+1,3,none⟩ (.slice A1 r.takes.size c1)).setCell ⟨gb+1,4,none⟩ (.slice A2 r.gives.size c2)=Wf at ho5 hbF ⊢
  clear e0 e1 e2 e3 e4 z0 z1 z2 z3 z4
  have f0:Wf.cell? ⟨gb+1,0,none⟩=some (.int .i64 r.code):=cell_blk hbF 0
  have f1:Wf.cell? ⟨gb+1,1,none⟩=some (.string r.name):=cell_blk hbF 1
  have f2:Wf.cell? ⟨gb+1,2,none⟩=some (.int .i64 r.form):=cell_blk hbF 2
  have f3:Wf.cell? ⟨gb+1,3,none⟩=some (.slice A1 r.takes.size c1):=cell_blk hbF 3
  have f4:Wf.cell? ⟨gb+1,4,none⟩=some (.slice A2 r.gives.size c2):=cell_blk hbF 4
  refine bodyPost_ret (v:=.agg #[.int .i64 r.code,.string r.name,.int .i64 r.form,.slice A1 r.takes.size c1,.slice A2 r.gives.size c2]) (by simp[results,Tryz.results126,go_sem,f0,f1,f2,f3,f4]) rfl ?_
  have hl:∀{v:Value} {n:Nat} {xs:List Value},W2.ownsRow (gb+2) 133 1 v n xs→Wf.ownsRow w.heap.size 133 1 v n xs:=fun h=>by
   have h9:=own_only3 h ho5 (fun g hg=>by have:=own_ge h g hg;simp;omega)
   exact own_base h9 (fun g hg=>by have:=own_ge h g hg;rw[HG.out];omega)
  refine⟨A1,c1,A2,c2,rfl,hl hown1.out,hl hown2.out,?_⟩
  have h9:Below gb w W2:=HB.out.trans (hb.mono (by rw[HSZ.out];omega))
  have h10:=h9.size
  rw[HG.out]at h10 ⊢
  exact h9.trans (ho5.below h10 (by simp))
end Go.Proofs.YtomppgohoplemaaGreat
