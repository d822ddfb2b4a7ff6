import Derived.Test.YtomppgohoplemaaGreatNAJ
import Derived.Test.YtomppgohoplemaaGreatNBI
import Derived.Test.YtomppgohoplemaaGreatNBJ
import Derived.Test.YtomppgohoplemaaGreatNBM
import Derived.Test.YtomppgohoplemaaGreatNAB
set_option linter.unusedVariables false
namespace Go.Proofs.YtomppgohoplemaaGreat
open Go.RowKit
def stepX (v:PE) (s:PS) (x:XI):RR PS:=match opRow x.code with
 | some r=>stepP v s x r.form (widthN r.name.data.toList) (typesL r.takes) (typesL r.gives)
 | none=>.bad 0
def peOf (m:Mo) (f:Nat):PE:=⟨m,(sigOf m (m.imps.length+f)).p++(m.funcs.getD f noFu).bd.loc,(sigOf m (m.imps.length+f)).p,(sigOf m (m.imps.length+f)).r⟩
def ps0 (r:List UInt8):PS:=⟨[],[⟨false,false,r,0,false⟩]⟩
def runB2 (m:Mo) (f:Nat):List Nat×Nat×Nat:=runC (stepX (peOf m f)) (m.funcs.getD f noFu).bd.l (ps0 (peOf m f).r) 0 []
def runP (m:Mo) (f:Int):List Nat×Nat×Nat :=
 if (unfitP m).2≠0 then ([],0,12)
 else if inB f m.funcs.length then
  if errB (m.funcs.getD f.toNat noFu).bd≠0 then ([],0,errB (m.funcs.getD f.toNat noFu).bd)else runB2 m f.toNat
 else ([],0,2)
def hD (n:Nat):Value:=.int .i64 (n:Int)
def RunP (w:World) (r:List Nat×Nat×Nat) (e:Ending) (w':World):Prop :=
 ∃A c,e=.returned (.tuple #[.slice A r.1.length c,.int .i64 (r.2.1:Int),.int .i64 (r.2.2:Int)])∧Hid (w'.ownsRow w.heap.size 3 1 (.slice A r.1.length c) r.1.length (r.1.map hD))∧Hid (Below w.heap.size w w')
theorem right_al {x:XI} (h:rightX x=true):0≤x.al:=by
 obtain⟨_,_,_,hf⟩:=right_some h
 unfold rightF at hf
 (repeat' split at hf)<;>simp at hf<;>omega
theorem errB_ok {b:MBd} (h:errB b=0):(∀x∈b.l,rightX x=true)∧b.loc.length≤50∧nestE b=0:=by
 unfold errB at h
 split at h
 ·rename_i hr
  unfold rightB at hr
  simp only[Bool.and_eq_true,List.all_eq_true,decide_eq_true_eq]at hr
  split at h
  ·rename_i hn;exact absurd h hn
  ·rename_i hn
   exact⟨hr.1,hr.2.2,by omega⟩
 ·cases h
theorem stepX_keep {v:PE} {s s2:PS} {x:XI} (h:stepX v s x=.ok s2) (hi:InvP s) (hr:∀i,(v.m.sigs.getD i noSg).r.length≤1000):KeepP s s2 x.code:=by
 unfold stepX at h
 cases ho:opRow x.code with
 | none=>rw[ho]at h;cases h
 | some r =>
  rw[ho]at h
  have hok:=opRow_ok ho
  exact stepP_keep h hi hr (by rw[typesL_len];have:=hok.gl;omega)
structure RunI (cs:List Int) (r:List Int) (k:Nat) (s:PS) (b:Nat) (ns:NS):Prop where
 go:(goN cs r k ns).2.1=0
 nr:NR s ns
 st:s.st.length≤1000*k
 bl:b≤k+1
theorem RunI.inv {cs:List Int} {c:Int} {r:List Int} {k:Nat} {s:PS} {b:Nat} {ns:NS} (h:RunI cs (c::r) k s b ns):InvP s:=(h.nr (goN_cons h.go).1).1
theorem RunI.step {v:PE} {cs:List Int} {x:XI} {r:List Int} {k:Nat} {s s2:PS} {ns:NS} (h:RunI cs (x.code::r) k s s.bl.length ns) (hs:stepX v s x=.ok s2) (hr:∀i,(v.m.sigs.getD i noSg).r.length≤1000) :
  RunI cs r (k+1) s2 s2.bl.length (stepN cs x.code k ns).2:=by
 obtain⟨hc,he,hg⟩:=goN_cons h.go
 have hi:=(h.nr hc).1
 have hk:=stepX_keep hs hi hr
 have h1:=h.st
 have h2:=h.bl
 have h3:=hk.st
 have h4:=hk.len hi
 exact⟨hg,NR.step hc he h.nr hk,by omega,by omega⟩
theorem RunI.start {b:MBd} (hn:nestE b=0) {r:List UInt8} (hr:r.length≤1000):RunI (codesB b) (codesB b) 0 (ps0 r) (ps0 r).bl.length initN :=
 ⟨hn,fun _=>⟨startP_inv r hr,rfl⟩,Nat.le_refl _,Nat.le_refl _⟩
theorem MoL.sigs_r {m:MoL} (hz:MoSz m) (i:Nat):(m.g.sigs.getD i noSg).r.length≤1000:=by
 show ((m.sigs.l.map SgL.g).getD i noSg).r.length≤1000
 rw[List.getD_eq_getElem?_getD,List.getElem?_map]
 cases h:m.sigs.l[i]? with
 | none=>simp[noSg]
 | some s=>exact(hz.sig s (List.mem_of_getElem? h)).2
theorem fit_sig {m:MoL} (hu:(unfitP m.g).2=0) {f:Nat} (hf:f<m.imps.l.length+m.funcs.l.length):∃s,sigL m (f:Int)=some s∧s∈m.sigs.l∧sigOf m.g f=s.g:=by
 have hfit:=fit_of hu
 have hall:m.g.all=m.imps.l.length+m.funcs.l.length:=by simp[Mo.all,MoL.g]
 have hn:=hfit.num (f:=f) (by omega)
 have hs:hasSig m.g f=true:=by unfold hasSig;rw[hn,hall,decide_eq_true hf];rfl
 obtain⟨s,h1,h2,h3,_⟩:=hasSig_yes hs
 exact⟨s,h1,h2,h3⟩
def NZ {α:Type} (r:RR α):Prop:=∀n,r=.bad n→n≠0
theorem nz_ok {α:Type} (a:α):NZ (RR.ok a):=fun n h=>by cases h
theorem nz_need {α:Type} {b:Bool} {e:Nat} {r:RR α} (he:e≠0) (hr:NZ r):NZ (need b e r):=by
 cases b with
 | true=>exact hr
 | false=>intro n h;simp[need]at h;omega
theorem nz_then {α β:Type} {r:RR α} {f:α→RR β} (hr:NZ r) (hf:∀a,NZ (f a)):NZ (r.then f):=by
 cases r with
 | ok a=>exact hf a
 | bad n=>intro k h;simp[RR.then]at h;subst h;exact hr n rfl
theorem nz_ite {α:Type} {c:Prop} [Decidable c] {a b:RR α} (ha:NZ a) (hb:NZ b):NZ (if c then a else b):=by split<;>assumption
theorem nz_pop (s:PS) (t:UInt8):NZ (popP s t):=nz_ite (nz_need (by omega) (nz_ok _)) (nz_need (by omega) (nz_ok _))
theorem nz_popsR:∀(l:List UInt8) (s:PS),NZ (popsR s l)
 | [],s=>nz_ok _
 | t::r,s=>nz_then (nz_pop s t) fun q=>nz_popsR r q.1
theorem nz_pops (s:PS) (l:List UInt8):NZ (popsP s l):=nz_popsR _ _
theorem nz_pop1 (s:PS) (t:UInt8):NZ (pop1 s t):=nz_then (nz_pop s t) fun _=>nz_ok _
theorem nz_close (s:PS):NZ (closeP s):=nz_then (nz_pops _ _) fun _=>nz_need (by omega) (nz_ok _)
theorem nz_other (s:PS):NZ (otherP s):=nz_then (nz_close s) fun _=>nz_ok _
theorem nz_end (s:PS):NZ (endP s):=nz_then (nz_close s) fun _=>nz_need (by omega) (nz_ok _)
theorem nz_label (s:PS) (n:Nat):NZ (labelP s n):=nz_need (by omega) (nz_ok _)
theorem nz_labelsIn (s:PS):∀l:List Nat,NZ (labelsIn s l)
 | []=>nz_ok _
 | n::r=>nz_then (nz_label s n) fun _=>nz_labelsIn s r
theorem nz_labelsEq (s:PS) (w:List UInt8):∀l:List Nat,NZ (labelsEq s w l)
 | []=>nz_ok _
 | n::r=>nz_then (nz_label s n) fun _=>nz_need (by omega) (nz_labelsEq s w r)
theorem nz_apply (s:PS) (p r:List UInt8):NZ (applyP s p r):=nz_then (nz_pops _ _) fun _=>nz_ok _
theorem nz_mem (v:PE) (n:Nat):NZ (memP v n):=nz_need (by omega) (nz_ok _)
theorem nz_local (v:PE) (n:Nat):NZ (localP v n):=nz_need (by omega) (nz_ok _)
theorem nz_global (v:PE) (n:Nat):NZ (globalP v n):=nz_need (by omega) (nz_ok _)
theorem nz_branch (s:PS) (x:XI):NZ (branchP s x):=nz_then (nz_label _ _) fun _=>nz_then (nz_labelsIn _ _) fun _=>nz_then (nz_labelsEq _ _ _) fun _=>nz_then (nz_pop1 _ _) fun _=>nz_then (nz_pops _ _) fun _=>nz_ok _
theorem nz_control (v:PE) (s:PS) (x:XI):NZ (controlP v s x) :=
 nz_ite (nz_ok _) (nz_ite (nz_then (nz_pop1 _ _) fun _=>nz_ok _) (nz_ite (nz_ok _) (nz_ite (nz_other _) (nz_ite (nz_end _) (nz_ite (nz_then (nz_label _ _) fun _=>nz_then (nz_pops _ _) fun _=>nz_ok _)
  (nz_ite (nz_then (nz_label _ _) fun _=>nz_then (nz_pop1 _ _) fun _=>nz_then (nz_pops _ _) fun _=>nz_ok _) (nz_ite (nz_branch _ _) (nz_then (nz_pops _ _) fun _=>nz_ok _))))))))
theorem nz_variable (v:PE) (s:PS) (x:XI):NZ (variableP v s x) :=
 nz_ite (nz_then (nz_local _ _) fun _=>nz_ok _) (nz_ite (nz_then (nz_local _ _) fun _=>nz_pop1 _ _) (nz_ite (nz_then (nz_local _ _) fun _=>nz_then (nz_pop1 _ _) fun _=>nz_ok _) (nz_ite (nz_then (nz_global _ _) fun _=>nz_ok _) (nz_then (nz_global _ _) fun _=>nz_need (by omega) (nz_pop1 _ _)))))
theorem nz_call (v:PE) (s:PS) (x:XI):NZ (callP v s x) :=
 nz_ite (nz_need (by omega) (nz_apply _ _ _)) (nz_ite (nz_need (by omega) (nz_then (nz_pop1 _ _) fun _=>nz_apply _ _ _)) (nz_ite (nz_pop1 _ _) (nz_then (nz_pop1 _ _) fun _=>nz_then (nz_pop _ _) fun _=>nz_then (nz_pop _ _) fun _=>nz_ok _)))
theorem nz_access (v:PE) (s:PS) (x:XI) (w:Nat) (tk gv:List UInt8):NZ (accessP v s x w tk gv):=nz_then (nz_mem _ _) fun _=>nz_need (by omega) (nz_need (by omega) (nz_apply _ _ _))
theorem nz_bulk (v:PE) (s:PS) (x:XI):NZ (bulkP v s x) :=
 nz_then (nz_mem _ _) fun _=>nz_ite (nz_ok _) (nz_ite (nz_then (nz_pop1 _ _) fun _=>nz_ok _) (nz_ite (nz_pops _ _) (nz_then (nz_mem _ _) fun _=>nz_pops _ _)))
theorem nz_step (v:PE) (s:PS) (x:XI) (f:Int) (w:Nat) (tk gv:List UInt8):NZ (stepP v s x f w tk gv) :=
 nz_ite (nz_control _ _ _) (nz_ite (nz_variable _ _ _) (nz_ite (nz_call _ _ _) (nz_ite (nz_access _ _ _ _ _ _) (nz_ite (nz_bulk _ _ _) (nz_apply _ _ _)))))
theorem nz_step_x {v:PE} {s:PS} {x:XI} {n:Nat} (h:stepX v s x=.bad n) (hx:(opRow x.code).isSome=true):n≠0:=by
 unfold stepX at h
 cases ho:opRow x.code with
 | none=>rw[ho]at hx;cases hx
 | some r=>rw[ho]at h;exact nz_step _ _ _ _ _ _ _ n h
structure HT (w:World) (bh:Nat) (vs vb v:Value) (hs:List Nat):Prop where
 own:w.ownsRow bh 3 1 v hs.length (hs.map hD)
 ap:∀q,v.ownBlock=some q→vs.ownBlock≠some q∧vb.ownBlock≠some q
def KX.to (K:KX) (o:Option Nat):KX:={ K with far:=o }
section
variable {w w':World} {K:KX} {vs vb vs' vb' v:Value} {cs:List CB} {st:List UInt8} {bh:Nat} {hs:List Nat}
theorem CK.far (h:CK w K vs vb cs st) (o:Option Nat) (ho:∀q,o=some q→q<w.heap.size) (hr:∀q,o=some q→∀b∈cs,0<b.res.l.length→∀ad,b.res.at_=some ad→ad.block≠q):CK w (K.to o) vs vb cs st :=
 ⟨h.blk,h.bc,h.os,h.ob,h.as_,h.ab,h.av,fun b hb=>⟨(h.rr b hb).row,(h.rr b hb).apart,fun h0 ad ha e=>hr _ e b hb h0 ad ha rfl⟩,ho⟩
theorem HT.step (h:HT w bh vs vb v hs) (hc:K.cb<bh) (hn:NW w w' K.cb vs vb vs' vb'):HT w' bh vs' vb' v hs:=by
 refine⟨own_only3 h.own hn.only fun q hq hm=>?_,fun q hq=>?_⟩
 ·obtain⟨a1,a2⟩:=h.ap q hq
  have a3:=own_ge h.own q hq
  simp only[List.mem_cons,List.mem_append,Option.mem_toList]at hm
  rcases hm with e|e|e
  ·omega
  ·exact a1 e
  ·exact a2 e
 ·obtain⟨a1,a2⟩:=h.ap q hq
  have a3:=own_lt h.own q hq
  have a4:=own_ge h.own q hq
  exact(hn.fresh a3 (by omega) a1 a2).2
theorem CK.grow {v':Value} {x:Nat} (h:CK w (K.to v.ownBlock) vs vb cs st) (ht:HT w bh vs vb v hs) (hc:K.cb<bh) (hg:Grows w w' v v') (ho:w'.ownsRow bh 3 1 v' (hs.length+1) (hs.map hD++[hD x])) :
  CK w' (K.to v'.ownBlock) vs vb cs st∧HT w' bh vs vb v' (hs++[x]):=by
 have hown:w'.ownsRow bh 3 1 v' (hs++[x]).length ((hs++[x]).map hD):=own_cast ho (by simp) (by simp)
 have hol:=own_lt hown
 have hap:∀q,v'.ownBlock=some q→vs.ownBlock≠some q∧vb.ownBlock≠some q∧(∀b∈cs,0<b.res.l.length→∀ad,b.res.at_=some ad→ad.block≠q):=by
  intro q hq
  rcases hg.lies with e|⟨g,e,hge⟩
  ·rw[e]at hq
   obtain⟨a1,a2⟩:=ht.ap q hq
   exact⟨a1,a2,fun b hb h0 ad ha he=>(h.rr b hb).far h0 ad ha (by show v.ownBlock=_;rw[hq,he])⟩
  ·rw[e]at hq
   injection hq with hq
   subst hq
   exact⟨fun e2=>by have:=own_lt h.os _ e2;omega,fun e2=>by have:=own_lt h.ob _ e2;omega,fun b hb h0 ad ha he=>by have:=((h.rr b hb).apart h0 ad ha).1;omega⟩
 have hck:CK w' (K.to v.ownBlock) vs vb cs st:=by
  cases hv:v.ownBlock with
  | none =>
   have hb:Below w.heap.size w w':=hg.below (Nat.le_refl _) (fun g hgg=>by rw[hv]at hgg;cases hgg)
   rw[hv]at h
   exact h.quiet hb
  | some q =>
   have hO:Only [q] w w':=by have:=hg.only;rw[hv]at this;simpa using this
   obtain⟨a1,a2⟩:=ht.ap q hv
   have a3:=own_ge ht.own q hv
   rw[hv]at h
   exact h.other hO (by show K.cb≠q;omega) a1 a2 (fun b hb h0 ad ha he=>(h.rr b hb).far h0 ad ha (by show some q=_;rw[he]))
 exact⟨hck.far v'.ownBlock hol (fun q hq=>(hap q hq).2.2),hown,fun q hq=>⟨(hap q hq).1,(hap q hq).2.1⟩⟩
theorem KE.to_far {w0:World} {g:Nat} {m:MoL} {loc sp sr:Sl UInt8} (h:KE w0 K g m loc sp sr) (o:Option Nat) (ho:∀q,o=some q→w0.heap.size≤q):KE w0 (K.to o) g m loc sp sr :=
 ⟨h.c0,h.c1,h.c2,h.c3,h.mo,h.loc,h.sr,h.bs,ho⟩
end
def noXI:XI:=⟨0,0,0,0,[]⟩
def xAt (l:List XI) (i:Nat):XI:=l.getD i noXI
def arP (sp:List (Int×Int×Int)) (at_:Nat):List (Int×Int×Int):=sp.reverse.filter (fun x=>decide (x.1<(at_:Int))&&decide ((at_:Int)<x.2.2))
def belowN (l:List XI) (hs:List Nat) (i:Nat):Nat:=if (xAt l i).code=4 then hs.getD i 0-1 else hs.getD i 0
def manyN (l:List XI) (i:Nat):Nat:=if (xAt l i).a=64 then 0 else 1
def jumpP (l:List XI) (hs:List Nat) (res:Nat) (ar:List (Int×Int×Int)) (n:Nat):Jmp :=
 match ar[n]? with
 | none=>⟨l.length,res,0⟩
 | some x=>if (xAt l x.1.toNat).code=3 then ⟨x.1.toNat+1,0,belowN l hs x.1.toNat⟩else ⟨x.2.2.toNat+1,manyN l x.1.toNat,belowN l hs x.1.toNat⟩
def labelsX (x:XI):List Nat:=if x.code=12∨x.code=13 then [x.a]else if x.code=14 then x.l++[x.a]else []
structure SidE where
 l:List XI
 hs:List Nat
 res:Nat
 sp:List (Int×Int×Int)
def SidE.lab (v:SidE) (i:Nat):List Nat:=labelsX (xAt v.l i)
def SidE.jmp (v:SidE) (i k:Nat):Option Jmp:=((v.lab i)[k]?).map (jumpP v.l v.hs v.res (arP v.sp i))
def ahead (i k:Nat) (p:Nat×Nat):Bool:=decide (p.1<i)||(decide (p.1=i)&&decide (p.2<k))
def SidE.jumps (v:SidE) (i k:Nat) (p:Nat×Nat):Option Jmp:=if ahead i k p then v.jmp p.1 p.2 else none
def SidE.counts (v:SidE) (i:Nat) (j:Nat):Option Nat:=if j<i∧0<(v.lab j).length then some (v.lab j).length else none
def rowJ (i n:Nat):List (Nat×Nat):=(List.range n).map (fun k=>(i,k))
def SidE.order (v:SidE) (i:Nat):List (Nat×Nat):=(List.range i).flatMap (fun j=>rowJ j (v.lab j).length)
def updF {κ δ:Type} [DecidableEq κ] (F:κ→Option δ) (x:κ) (d:δ):κ→Option δ:=fun y=>if y=x then some d else F y
def skipP (l:List XI) (F:Nat→Option Nat) (x:Int×Int×Int):Nat→Option Nat :=
 if (xAt l x.1.toNat).code=4 then
  if 0≤x.2.1 then updF (updF (updF F x.1.toNat x.2.2.toNat) x.1.toNat (x.2.1.toNat+1)) x.2.1.toNat x.2.2.toNat else updF F x.1.toNat x.2.2.toNat
 else F
def SidE.skips (v:SidE):Nat→Option Nat:=v.sp.foldl (skipP v.l) (fun _=>none)
theorem SidE.lab_out (v:SidE) {i:Nat} (h:v.l.length≤i):v.lab i=[]:=by
 unfold SidE.lab xAt
 rw[List.getD_eq_getElem?_getD,List.getElem?_eq_none h]
 rfl
theorem SidE.jumps_step (v:SidE) {i k n:Nat} (h:(v.lab i)[k]?=some n):v.jumps i (k+1)=updF (v.jumps i k) (i,k) (jumpP v.l v.hs v.res (arP v.sp i) n):=by
 funext p
 obtain⟨a,b⟩:=p
 unfold updF SidE.jumps
 by_cases e:(a,b)=(i,k)
 ·obtain⟨rfl,rfl⟩:=Prod.mk.inj e
  have ha:ahead a (b+1) (a,b)=true:=by simp[ahead]
  rw[if_pos ha,if_pos e]
  show ((v.lab a)[b]?).map _=_
  rw[h]
  rfl
 ·rw[if_neg e]
  have:ahead i (k+1) (a,b)=ahead i k (a,b):=by
   unfold ahead
   simp only
   by_cases h1:a=i
   ·subst h1
    have:b≠k:=fun h2=>e (by rw[h2])
    have h3:decide (b<k+1)=decide (b<k):=decide_eq_decide.2 (by omega)
    rw[h3]
   ·simp[h1]
  rw[this]
theorem SidE.jumps_next (v:SidE) (i:Nat):v.jumps (i+1) 0=v.jumps i (v.lab i).length:=by
 funext p
 obtain⟨a,b⟩:=p
 unfold SidE.jumps ahead
 simp only
 by_cases h1:a<i
 ·simp[h1,show a<i+1 by omega]
 ·by_cases h2:a=i
  ·subst h2
   by_cases h3:b<(v.lab a).length
   ·simp[h3]
   ·have:v.jmp a b=none:=by unfold SidE.jmp;rw[List.getElem?_eq_none (by omega)];rfl
    simp[h3,this]
  ·simp[h1,h2,show ¬a<i+1 by omega]
theorem SidE.jumps_start (v:SidE):v.jumps 0 0=fun _=>none:=by
 funext p
 unfold SidE.jumps ahead
 simp
theorem SidE.counts_start (v:SidE):v.counts 0=fun _=>none:=by
 funext j
 unfold SidE.counts
 simp
theorem SidE.counts_step (v:SidE) (i:Nat):v.counts (i+1)=if 0<(v.lab i).length then updF (v.counts i) i (v.lab i).length else v.counts i:=by
 funext j
 by_cases h:0<(v.lab i).length
 ·rw[if_pos h]
  unfold updF SidE.counts
  by_cases e:j=i
  ·subst e;simp[h]
  ·rw[if_neg e];exact ite_congr (propext ⟨fun h=>⟨by omega,h.2⟩,fun h=>⟨by omega,h.2⟩⟩) (fun _=>rfl) (fun _=>rfl)
 ·rw[if_neg h]
  unfold SidE.counts
  by_cases e:j=i
  ·subst e;simp[h]
  ·exact ite_congr (propext ⟨fun h=>⟨by omega,h.2⟩,fun h=>⟨by omega,h.2⟩⟩) (fun _=>rfl) (fun _=>rfl)
theorem rowJ_succ (i n:Nat):rowJ i (n+1)=rowJ i n++[(i,n)]:=by unfold rowJ;rw[List.range_succ,List.map_append];rfl
theorem SidE.order_succ (v:SidE) (i:Nat):v.order (i+1)=v.order i++rowJ i (v.lab i).length:=by
 unfold SidE.order
 rw[List.range_succ,List.flatMap_append]
 simp
theorem rowJ_len (i n:Nat):(rowJ i n).length=n:=by simp[rowJ]
theorem runC_heights {v:PE} {cs:List Int} (hr:∀i,(v.m.sigs.getD i noSg).r.length≤1000):∀(r:List XI) (k:Nat) (s:PS) (ns:NS) (hs:List Nat),RunI cs (r.map (fun x=>x.code)) k s s.bl.length ns→(∀x∈r,(opRow x.code).isSome=true)→hs.length=k→(∀h∈hs,h≤1000*k) →
  (runC (stepX v) r s k hs).2.2=0→(runC (stepX v) r s k hs).1.length=k+r.length∧∀h∈(runC (stepX v) r s k hs).1,h≤1000*(k+r.length)
 | [],k,s,ns,hs,_,_,hl,hb,_=>⟨hl,fun h hh=>by have:=hb h hh;simp;omega⟩
 | x::r,k,s,ns,hs,hI,ho,hl,hb,h0=>by
  unfold runC at h0 ⊢
  cases hx:stepX v s x with
  | bad n =>
   rw[hx]at h0
   exact absurd h0 (nz_step_x hx (ho x (by simp)))
  | ok s1 =>
   rw[hx]at h0
   simp only at h0 ⊢
   have hst:=hI.st
   have h2:=runC_heights hr r (k+1) s1 _ (hs++[s.st.length]) (hI.step hx hr) (fun y hy=>ho y (List.mem_cons_of_mem _ hy)) (by simp[hl]) (fun h hh=>by
    rcases List.mem_append.1 hh with hh|hh
    ·have:=hb h hh;omega
    ·simp at hh;omega) h0
   refine⟨by rw[h2.1];simp;omega,fun h hh=>?_⟩
   have:=h2.2 h hh
   simp
   omega
end Go.Proofs.YtomppgohoplemaaGreat
