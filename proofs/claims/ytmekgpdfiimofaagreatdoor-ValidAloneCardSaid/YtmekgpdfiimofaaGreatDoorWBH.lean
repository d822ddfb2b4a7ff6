import Derived.Test.YtmekgpdfiimofaaGreatDoorWAH
import Derived.Test.YtmekgpdfiimofaaGreatDoorWBC
import Derived.Test.YtmekgpdfiimofaaGreatDoorWBD
import Derived.Test.YtmekgpdfiimofaaGreatDoorWBG
import Derived.BigQuiet
import Derived.Test.YtmekgpdfiimofaaGreatDoorShelf
import Derived.Lib.Slices
set_option linter.unusedVariables false
namespace Go.Proofs.YtmekgpdfiimofaaGreatDoor
open Go.RowKit
def stepX (v:PE) (s:PS) (x:XI):RR PS:=match opRow x.code with
 | some r=>stepP v s x r.form (widthN r.name.data.toList) (typesL r.takes) (typesL r.gives)
 | none=>.bad 0
def peOf (m:Mo) (f:Nat):PE:=⟨m,(sigOf m (m.imps.length+f)).p++(m.funcs.getD f noFu).bd.loc,(sigOf m (m.imps.length+f)).p,(sigOf m (m.imps.length+f)).r⟩
def ps0 (r:List UInt8):PS:=⟨[],[⟨false,false,r,0,false⟩]⟩
def runB2 (m:Mo) (f:Nat):List Nat×Nat×Nat:=runC (stepX (peOf m f)) (m.funcs.getD f noFu).bd.l (ps0 (peOf m f).r) 0 []
def runP (m:Mo) (f:Int):List Nat×Nat×Nat :=
 if (unfitP m).2≠0 then ([],0,12)
 else if inB f m.funcs.length then
  if errB (m.funcs.getD f.toNat noFu).bd≠0 then ([],0,errB (m.funcs.getD f.toNat noFu).bd)else runB2 m f.toNat
 else ([],0,2)
def hD (n:Nat):Value:=.int .i64 (n:Int)
def RunP (w:World) (r:List Nat×Nat×Nat) (e:Ending) (w':World):Prop :=
 ∃A c,e=.returned (.tuple #[.slice A r.1.length c,.int .i64 (r.2.1:Int),.int .i64 (r.2.2:Int)])∧Hid (w'.ownsRow w.heap.size 3 1 (.slice A r.1.length c) r.1.length (r.1.map hD))∧Hid (Below w.heap.size w w')
theorem right_al {x:XI} (h:rightX x=true):0≤x.al:=by
 obtain⟨_,_,_,hf⟩:=right_some h
 unfold rightF at hf
 (repeat' split at hf)<;>simp at hf<;>omega
theorem errB_ok {b:MBd} (h:errB b=0):(∀x∈b.l,rightX x=true)∧b.loc.length≤50∧nestE b=0:=by
 unfold errB at h
 split at h
 ·rename_i hr
  unfold rightB at hr
  simp only[Bool.and_eq_true,List.all_eq_true,decide_eq_true_eq]at hr
  split at h
  ·rename_i hn;exact absurd h hn
  ·rename_i hn
   exact⟨hr.1,hr.2.2,by omega⟩
 ·cases h
theorem stepX_keep {v:PE} {s s2:PS} {x:XI} (h:stepX v s x=.ok s2) (hi:InvP s) (hr:∀i,(v.m.sigs.getD i noSg).r.length≤1000):KeepP s s2 x.code:=by
 unfold stepX at h
 cases ho:opRow x.code with
 | none=>rw[ho]at h;cases h
 | some r =>
  rw[ho]at h
  have hok:=opRow_ok ho
  exact stepP_keep h hi hr (by rw[typesL_len];have:=hok.gl;omega)
structure RunI (cs:List Int) (r:List Int) (k:Nat) (s:PS) (b:Nat) (ns:NS):Prop where
 go:(goN cs r k ns).2.1=0
 nr:NR s ns
 st:s.st.length≤1000*k
 bl:b≤k+1
theorem RunI.inv {cs:List Int} {c:Int} {r:List Int} {k:Nat} {s:PS} {b:Nat} {ns:NS} (h:RunI cs (c::r) k s b ns):InvP s:=(h.nr (goN_cons h.go).1).1
theorem RunI.step {v:PE} {cs:List Int} {x:XI} {r:List Int} {k:Nat} {s s2:PS} {ns:NS} (h:RunI cs (x.code::r) k s s.bl.length ns) (hs:stepX v s x=.ok s2) (hr:∀i,(v.m.sigs.getD i noSg).r.length≤1000) :
  RunI cs r (k+1) s2 s2.bl.length (stepN cs x.code k ns).2:=by
 obtain⟨hc,he,hg⟩:=goN_cons h.go
 have hi:=(h.nr hc).1
 have hk:=stepX_keep hs hi hr
 have h1:=h.st
 have h2:=h.bl
 have h3:=hk.st
 have h4:=hk.len hi
 exact⟨hg,NR.step hc he h.nr hk,by omega,by omega⟩
theorem RunI.start {b:MBd} (hn:nestE b=0) {r:List UInt8} (hr:r.length≤1000):RunI (codesB b) (codesB b) 0 (ps0 r) (ps0 r).bl.length initN :=
 ⟨hn,fun _=>⟨startP_inv r hr,rfl⟩,Nat.le_refl _,Nat.le_refl _⟩
theorem MoL.sigs_r {m:MoL} (hz:MoSz m) (i:Nat):(m.g.sigs.getD i noSg).r.length≤1000:=by
 show ((m.sigs.l.map SgL.g).getD i noSg).r.length≤1000
 rw[List.getD_eq_getElem?_getD,List.getElem?_map]
 cases h:m.sigs.l[i]? with
 | none=>simp[noSg]
 | some s=>exact(hz.sig s (List.mem_of_getElem? h)).2
theorem fit_sig {m:MoL} (hu:(unfitP m.g).2=0) {f:Nat} (hf:f<m.imps.l.length+m.funcs.l.length):∃s,sigL m (f:Int)=some s∧s∈m.sigs.l∧sigOf m.g f=s.g:=by
 have hfit:=fit_of hu
 have hall:m.g.all=m.imps.l.length+m.funcs.l.length:=by simp[Mo.all,MoL.g]
 have hn:=hfit.num (f:=f) (by omega)
 have hs:hasSig m.g f=true:=by unfold hasSig;rw[hn,hall,decide_eq_true hf];rfl
 obtain⟨s,h1,h2,h3,_⟩:=hasSig_yes hs
 exact⟨s,h1,h2,h3⟩
def NZ {α:Type} (r:RR α):Prop:=∀n,r=.bad n→n≠0
theorem nz_ok {α:Type} (a:α):NZ (RR.ok a):=fun n h=>by cases h
theorem nz_need {α:Type} {b:Bool} {e:Nat} {r:RR α} (he:e≠0) (hr:NZ r):NZ (need b e r):=by
 cases b with
 | true=>exact hr
 | false=>intro n h;simp[need]at h;omega
theorem nz_then {α β:Type} {r:RR α} {f:α→RR β} (hr:NZ r) (hf:∀a,NZ (f a)):NZ (r.then f):=by
 cases r with
 | ok a=>exact hf a
 | bad n=>intro k h;simp[RR.then]at h;subst h;exact hr n rfl
theorem nz_ite {α:Type} {c:Prop} [Decidable c] {a b:RR α} (ha:NZ a) (hb:NZ b):NZ (if c then a else b):=by split<;>assumption
theorem nz_pop (s:PS) (t:UInt8):NZ (popP s t):=nz_ite (nz_need (by omega) (nz_ok _)) (nz_need (by omega) (nz_ok _))
theorem nz_popsR:∀(l:List UInt8) (s:PS),NZ (popsR s l)
 | [],s=>nz_ok _
 | t::r,s=>nz_then (nz_pop s t) fun q=>nz_popsR r q.1
theorem nz_pops (s:PS) (l:List UInt8):NZ (popsP s l):=nz_popsR _ _
theorem nz_pop1 (s:PS) (t:UInt8):NZ (pop1 s t):=nz_then (nz_pop s t) fun _=>nz_ok _
theorem nz_close (s:PS):NZ (closeP s):=nz_then (nz_pops _ _) fun _=>nz_need (by omega) (nz_ok _)
theorem nz_other (s:PS):NZ (otherP s):=nz_then (nz_close s) fun _=>nz_ok _
theorem nz_end (s:PS):NZ (endP s):=nz_then (nz_close s) fun _=>nz_need (by omega) (nz_ok _)
theorem nz_label (s:PS) (n:Nat):NZ (labelP s n):=nz_need (by omega) (nz_ok _)
theorem nz_labelsIn (s:PS):∀l:List Nat,NZ (labelsIn s l)
 | []=>nz_ok _
 | n::r=>nz_then (nz_label s n) fun _=>nz_labelsIn s r
theorem nz_labelsEq (s:PS) (w:List UInt8):∀l:List Nat,NZ (labelsEq s w l)
 | []=>nz_ok _
 | n::r=>nz_then (nz_label s n) fun _=>nz_need (by omega) (nz_labelsEq s w r)
theorem nz_apply (s:PS) (p r:List UInt8):NZ (applyP s p r):=nz_then (nz_pops _ _) fun _=>nz_ok _
theorem nz_mem (v:PE) (n:Nat):NZ (memP v n):=nz_need (by omega) (nz_ok _)
theorem nz_local (v:PE) (n:Nat):NZ (localP v n):=nz_need (by omega) (nz_ok _)
theorem nz_global (v:PE) (n:Nat):NZ (globalP v n):=nz_need (by omega) (nz_ok _)
theorem nz_branch (s:PS) (x:XI):NZ (branchP s x):=nz_then (nz_label _ _) fun _=>nz_then (nz_labelsIn _ _) fun _=>nz_then (nz_labelsEq _ _ _) fun _=>nz_then (nz_pop1 _ _) fun _=>nz_then (nz_pops _ _) fun _=>nz_ok _
theorem nz_control (v:PE) (s:PS) (x:XI):NZ (controlP v s x) :=
 nz_ite (nz_ok _) (nz_ite (nz_then (nz_pop1 _ _) fun _=>nz_ok _) (nz_ite (nz_ok _) (nz_ite (nz_other _) (nz_ite (nz_end _) (nz_ite (nz_then (nz_label _ _) fun _=>nz_then (nz_pops _ _) fun _=>nz_ok _)
  (nz_ite (nz_then (nz_label _ _) fun _=>nz_then (nz_pop1 _ _) fun _=>nz_then (nz_pops _ _) fun _=>nz_ok _) (nz_ite (nz_branch _ _) (nz_then (nz_pops _ _) fun _=>nz_ok _))))))))
theorem nz_variable (v:PE) (s:PS) (x:XI):NZ (variableP v s x) :=
 nz_ite (nz_then (nz_local _ _) fun _=>nz_ok _) (nz_ite (nz_then (nz_local _ _) fun _=>nz_pop1 _ _) (nz_ite (nz_then (nz_local _ _) fun _=>nz_then (nz_pop1 _ _) fun _=>nz_ok _) (nz_ite (nz_then (nz_global _ _) fun _=>nz_ok _) (nz_then (nz_global _ _) fun _=>nz_need (by omega) (nz_pop1 _ _)))))
theorem nz_call (v:PE) (s:PS) (x:XI):NZ (callP v s x) :=
 nz_ite (nz_need (by omega) (nz_apply _ _ _)) (nz_ite (nz_need (by omega) (nz_then (nz_pop1 _ _) fun _=>nz_apply _ _ _)) (nz_ite (nz_pop1 _ _) (nz_then (nz_pop1 _ _) fun _=>nz_then (nz_pop _ _) fun _=>nz_then (nz_pop _ _) fun _=>nz_ok _)))
theorem nz_access (v:PE) (s:PS) (x:XI) (w:Nat) (tk gv:List UInt8):NZ (accessP v s x w tk gv):=nz_then (nz_mem _ _) fun _=>nz_need (by omega) (nz_need (by omega) (nz_apply _ _ _))
theorem nz_bulk (v:PE) (s:PS) (x:XI):NZ (bulkP v s x) :=
 nz_then (nz_mem _ _) fun _=>nz_ite (nz_ok _) (nz_ite (nz_then (nz_pop1 _ _) fun _=>nz_ok _) (nz_ite (nz_pops _ _) (nz_then (nz_mem _ _) fun _=>nz_pops _ _)))
theorem nz_step (v:PE) (s:PS) (x:XI) (f:Int) (w:Nat) (tk gv:List UInt8):NZ (stepP v s x f w tk gv) :=
 nz_ite (nz_control _ _ _) (nz_ite (nz_variable _ _ _) (nz_ite (nz_call _ _ _) (nz_ite (nz_access _ _ _ _ _ _) (nz_ite (nz_bulk _ _ _) (nz_apply _ _ _)))))
theorem nz_step_x {v:PE} {s:PS} {x:XI} {n:Nat} (h:stepX v s x=.bad n) (hx:(opRow x.code).isSome=true):n≠0:=by
 unfold stepX at h
 cases ho:opRow x.code with
 | none=>rw[ho]at hx;cases hx
 | some r=>rw[ho]at h;exact nz_step _ _ _ _ _ _ _ n h
structure HT (w:World) (bh:Nat) (vs vb v:Value) (hs:List Nat):Prop where
 own:w.ownsRow bh 3 1 v hs.length (hs.map hD)
 ap:∀q,v.ownBlock=some q→vs.ownBlock≠some q∧vb.ownBlock≠some q
def KX.to (K:KX) (o:Option Nat):KX:={ K with far:=o }
section
variable {w w':World} {K:KX} {vs vb vs' vb' v:Value} {cs:List CB} {st:List UInt8} {bh:Nat} {hs:List Nat}
theorem CK.far (h:CK w K vs vb cs st) (o:Option Nat) (ho:∀q,o=some q→q<w.heap.size) (hr:∀q,o=some q→∀b∈cs,0<b.res.l.length→∀ad,b.res.at_=some ad→ad.block≠q):CK w (K.to o) vs vb cs st :=
 ⟨h.blk,h.bc,h.os,h.ob,h.as_,h.ab,h.av,fun b hb=>⟨(h.rr b hb).row,(h.rr b hb).apart,fun h0 ad ha e=>hr _ e b hb h0 ad ha rfl⟩,ho⟩
theorem HT.step (h:HT w bh vs vb v hs) (hc:K.cb<bh) (hn:NW w w' K.cb vs vb vs' vb'):HT w' bh vs' vb' v hs:=by
 refine⟨own_only3 h.own hn.only fun q hq hm=>?_,fun q hq=>?_⟩
 ·obtain⟨a1,a2⟩:=h.ap q hq
  have a3:=own_ge h.own q hq
  simp only[List.mem_cons,List.mem_append,Option.mem_toList]at hm
  rcases hm with e|e|e
  ·omega
  ·exact a1 e
  ·exact a2 e
 ·obtain⟨a1,a2⟩:=h.ap q hq
  have a3:=own_lt h.own q hq
  have a4:=own_ge h.own q hq
  exact(hn.fresh a3 (by omega) a1 a2).2
theorem CK.grow {v':Value} {x:Nat} (h:CK w (K.to v.ownBlock) vs vb cs st) (ht:HT w bh vs vb v hs) (hc:K.cb<bh) (hg:Grows w w' v v') (ho:w'.ownsRow bh 3 1 v' (hs.length+1) (hs.map hD++[hD x])) :
  CK w' (K.to v'.ownBlock) vs vb cs st∧HT w' bh vs vb v' (hs++[x]):=by
 have hown:w'.ownsRow bh 3 1 v' (hs++[x]).length ((hs++[x]).map hD):=own_cast ho (by simp) (by simp)
 have hol:=own_lt hown
 have hap:∀q,v'.ownBlock=some q→vs.ownBlock≠some q∧vb.ownBlock≠some q∧(∀b∈cs,0<b.res.l.length→∀ad,b.res.at_=some ad→ad.block≠q):=by
  intro q hq
  rcases hg.lies with e|⟨g,e,hge⟩
  ·rw[e]at hq
   obtain⟨a1,a2⟩:=ht.ap q hq
   exact⟨a1,a2,fun b hb h0 ad ha he=>(h.rr b hb).far h0 ad ha (by show v.ownBlock=_;rw[hq,he])⟩
  ·rw[e]at hq
   injection hq with hq
   subst hq
   exact⟨fun e2=>by have:=own_lt h.os _ e2;omega,fun e2=>by have:=own_lt h.ob _ e2;omega,fun b hb h0 ad ha he=>by have:=((h.rr b hb).apart h0 ad ha).1;omega⟩
 have hck:CK w' (K.to v.ownBlock) vs vb cs st:=by
  cases hv:v.ownBlock with
  | none =>
   have hb:Below w.heap.size w w':=hg.below (Nat.le_refl _) (fun g hgg=>by rw[hv]at hgg;cases hgg)
   rw[hv]at h
   exact h.quiet hb
  | some q =>
   have hO:Only [q] w w':=by have:=hg.only;rw[hv]at this;simpa using this
   obtain⟨a1,a2⟩:=ht.ap q hv
   have a3:=own_ge ht.own q hv
   rw[hv]at h
   exact h.other hO (by show K.cb≠q;omega) a1 a2 (fun b hb h0 ad ha he=>(h.rr b hb).far h0 ad ha (by show some q=_;rw[he]))
 exact⟨hck.far v'.ownBlock hol (fun q hq=>(hap q hq).2.2),hown,fun q hq=>⟨(hap q hq).1,(hap q hq).2.1⟩⟩
theorem KE.to_far {w0:World} {g:Nat} {m:MoL} {loc sp sr:Sl UInt8} (h:KE w0 K g m loc sp sr) (o:Option Nat) (ho:∀q,o=some q→w0.heap.size≤q):KE w0 (K.to o) g m loc sp sr :=
 ⟨h.c0,h.c1,h.c2,h.c3,h.mo,h.loc,h.sr,h.bs,ho⟩
end
set_option maxRecDepth 100000 in
set_option maxHeartbeats 1600000 in
theorem run_unfit (g:Nat) (m:MoL) (f:Int) (w:World) (h:Hid (MoAt w g m)) (hz:Hid (MoSz m)) (hu:(unfitP m.g).2≠0) :
  Calls Tryz.prog 61 #[.pointer (some ⟨g,0,none⟩),.int .i64 f] w (RunP w ([],0,12)):=by
 have HF:=hide (fit_any g m w h hz)
 generalize unfitP m.g=u at *
 obtain⟨u1,u2⟩:=u
 simp only at HF hu
 have hne:((u2:Int) != 0)=true:=by simp;omega
 clear hu
 go_enter Tryz.func61,Tryz.ntmps61
 go_wp2_with fail
 refine HF.out.mono ?_;rintro e w1 ⟨rfl,hb⟩
 go_wp2_with fail
 go_ret3
 exact⟨none,0,rfl,own_nil _ _ _ _,hb⟩
set_option maxRecDepth 100000 in
set_option maxHeartbeats 1600000 in
theorem run_out (g:Nat) (m:MoL) (f:Int) (w:World) (h:Hid (MoAt w g m)) (hz:Hid (MoSz m)) (hu:(unfitP m.g).2=0) (hf:f<0∨(m.funcs.l.length:Int)≤f) :
  Calls Tryz.prog 61 #[.pointer (some ⟨g,0,none⟩),.int .i64 f] w (RunP w ([],0,2)):=by
 have HF:=hide (fit_any g m w h hz)
 rw[hu]at HF
 have HL:=hide (fun V (hV:Below w.heap.size w V)=>locals_out_any g m f V (hide (h.out.below hV)) hf)
 generalize (unfitP m.g).1=u1 at *
 clear hu hf
 go_enter Tryz.func61,Tryz.ntmps61
 go_wp2_with fail
 refine HF.out.mono ?_;rintro e w1 ⟨rfl,hb⟩
 go_wp2_with fail
 refine(HL.out _ hb.out).mono ?_;rintro e w2 ⟨s,rfl,hs,hr,hb2⟩
 go_wp2_with fail
 go_ret3
 exact⟨none,0,rfl,own_nil _ _ _ _,hb.out.trans (hb2.out.mono hb.out.size)⟩
set_option maxRecDepth 100000 in
set_option maxHeartbeats 3200000 in
theorem run_in (g:Nat) (m:MoL) (f:Nat) (y:FuL) (w:World) (ml:Int) (h:Hid (MoAt w g m)) (hz:Hid (MoSz m)) (hbz:Hid (∀y∈m.funcs.l,BdSz y.bd)) (hu:Hid ((unfitP m.g).2=0)) (hy:m.funcs.l[f]?=some y) (hml:Hid (w.cell? ⟨1,0,none⟩=some (.int .i64 ml))) :
  Calls Tryz.prog 61 #[.pointer (some ⟨g,0,none⟩),.int .i64 (f:Int)] w (RunP w (if errB y.bd.g≠0 then ([],0,errB y.bd.g)else runB2 m.g f)):=by
 have HF:=hide (fit_any g m w h hz)
 rw[hu.out]at HF
 obtain⟨un,hun⟩:∃un,(unfitP m.g).1=un:=⟨_,rfl⟩
 rw[hun]at HF
 clear hun
 have z1:=hz.out.imps;have z2:=hz.out.funcs;have z3:=hz.out.sigs
 have hlt:=lt_some hy
 have hym:=List.mem_of_getElem? hy
 have y1:=(hbz.out y hym).loc;have y2:=(hbz.out y hym).l
 obtain⟨fi,hfi⟩:∃fi:Nat,m.imps.l.length+f=fi:=⟨_,rfl⟩
 obtain⟨s,hs1,hs2,hs3⟩:=fit_sig hu.out (f:=fi) (by omega)
 have HL:=hide (fun V (hV:Below w.heap.size w V)=>locals_in_any g m f y V (hide (h.out.below hV)) hz hy (by omega))
 rw[hfi,hs1]at HL
 simp only[sP,Option.isSome_some]at HL
 have HS:=hide (fun V (hV:Below w.heap.size w V)=>msig_any g m (fi:Int) V (hide (h.out.below hV)) (by omega) (by omega) (by omega) (by omega) (by omega))
 rw[hs1]at HS
 simp only[sigV,Sl.val]at HS
 obtain⟨s5,s6⟩:=hz.out.sig s hs2
 have sfi:(m.imps.l.length:Int)+(f:Int)=(fi:Int):=by omega
 have HE:=hide (fun V (hV:Below w.heap.size w V)=>body_any y.bd V (hide ((h.out.below hV).in_.func y hym).2) (hide (hbz.out y hym)))
 have h1:¬((m.funcs.l.length:Int)≤(f:Int)):=by omega
 have h2:¬((f:Int)<0):=by omega
 have h3:(f:Int)<(m.funcs.l.length:Int):=by omega
 obtain⟨R,hR⟩:∃R,(if errB y.bd.g≠0 then ([],0,errB y.bd.g)else runB2 m.g f)=R:=⟨_,rfl⟩
 rw[hR]
 have HR:=hide hR
 obtain⟨en,hen⟩:∃en,errB y.bd.g=en:=⟨_,rfl⟩
 have HEN:=hide hen
 clear hR hen
 have HY:=hide hy;have HYM:=hide hym;have HFI:=hide hfi;have HS2:=hide hs2;have HS3:=hide hs3
 clear hy hym hfi hs1 hs2 hs3
 go_enter Tryz.func61,Tryz.ntmps61
 go_wp2_with fail
 refine HF.out.mono ?_;rintro e w1 ⟨rfl,hb1⟩
 go_wp2_with fail
 refine(HL.out _ hb1.out).mono ?_;rintro e w2 ⟨sl,rfl,hsl,hrl,hb2⟩
 have hB2:=hide (hb1.out.trans (hb2.out.mono hb1.out.size))
 have hM2:=h.out.below hB2.out
 obtain⟨_,_,c2,_,_,_,_,_,_,_⟩:=hM2.cells
 obtain⟨ad,ha,_,k0,kj⟩:=hM2.in_.funcs.at_ (fun _=>rfl) HY.out
 have q1:w2.cell? ⟨(ad.add (f*3)).block,(ad.add (f*3)).off+1,none⟩=some (.slice y.bd.loc.at_ y.bd.loc.l.length y.bd.loc.cap):=kj 1 (by omega) (by omega) _ rfl
 have q2:w2.cell? ⟨(ad.add (f*3)).block,(ad.add (f*3)).off+2,none⟩=some (.slice y.bd.l.at_ y.bd.l.l.length y.bd.l.cap):=kj 2 (by omega) (by omega) _ rfl
 rw[ha]at c2
 obtain⟨W3,hW3,hb3,hx3,hs3⟩:=box_new w2 #[.slice y.bd.loc.at_ y.bd.loc.l.length y.bd.loc.cap,.slice y.bd.l.at_ y.bd.l.l.length y.bd.l.cap] 77
 obtain⟨yg,hyg⟩:∃yg,w2.heap.size=yg:=⟨_,rfl⟩
 rw[hyg]at hx3
 have hB3:=hide (hB2.out.trans (hb3.mono hB2.out.size))
 have d0:=cell_blk hx3 0
 have d1:=cell_blk hx3 1
 simp at d0 d1
 have HX3:=hide hx3;have HW3:=hide hW3;have HYG:=hide hyg;have HRL:=hide (hrl.out.below hb3)
 clear k0 kj ha hM2 hx3 hW3 hyg hb3 hs3 hb1 hb2 hrl HF HL
 go_upto_region 8 with fail
 rw[HW3.out,HYG.out]
 go_wp2_with fail
 refine(HE.out _ hB3.out).mono ?_;rintro e w4 ⟨v,bs,rfl,_,hb4,_⟩
 rw[HEN.out]
 have hB4:=hide (hB3.out.trans (hb4.out.mono hB3.out.size))
 have HRL4:=hide (HRL.out.below hb4.out)
 have HX4:=hide ((hb4.out.block yg (blk_lt HX3.out)).trans HX3.out)
 clear d0 d1 c2 q1 q2 HX3 HRL hB2 HE
 by_cases he:en=0
 ·subst he
  have hM4:=h.out.below hB4.out
  obtain⟨_,c1,_,_,_,_,_,_,_,_⟩:=hM4.cells
  have e0:=cell_blk HX4.out 0
  have e1:=cell_blk HX4.out 1
  simp at e0 e1
  clear hM4
  go_wp2_with fail
  refine(HS.out _ hB4.out).mono ?_;rintro e w5 ⟨rfl,hb5⟩
  obtain⟨W6,hW6,hb6,hx6,hs6⟩:=box_new w5 #[.slice s.p.at_ s.p.l.length s.p.cap,.slice s.r.at_ s.r.l.length s.r.cap] 74
  obtain⟨sg,hsg⟩:∃sg,w5.heap.size=sg:=⟨_,rfl⟩
  rw[hsg]at hx6
  have hb46:Below w4.heap.size w4 W6:=hb5.out.trans (hb6.mono hb5.out.size)
  have hB6:=hide (hB4.out.trans (hb46.mono hB4.out.size))
  have HRL6:=hide (HRL4.out.below hb46)
  have HX6:=hide ((hb46.block yg (blk_lt HX4.out)).trans HX4.out)
  have HXS:=hide hx6;have HW6:=hide hW6;have HSG:=hide hsg
  have p0:=cell_blk hx6 0
  have p1:=cell_blk hx6 1
  simp at p0 p1
  clear hx6 hW6 hsg hb6 hs6 hb5 hb46 c1 e0 e1 HX4 HRL4 hB4
  obtain⟨bs,hbs⟩:∃bs,W6.heap.size=bs:=⟨_,rfl⟩
  obtain⟨W7,hW7,hb7,hx7,hs7⟩:=box_new W6 #[.bool false,.bool false,.slice s.r.at_ s.r.l.length s.r.cap,.int .i64 0,.bool false] 148
  obtain⟨W8,hW8,hb8,hx8,hs8⟩:=box_new W7 #[.pointer (some ⟨g,0,none⟩),.slice sl.at_ sl.l.length sl.cap,.slice s.p.at_ s.p.l.length s.p.cap,.slice s.r.at_ s.r.l.length s.r.cap,.slice none 0 0,.slice (some ⟨bs,0,none⟩) 1 1] 151
  rw[hbs]at hx7 hs7
  rw[hs7]at hx8 hs8
  have hb68:Below W6.heap.size W6 W8:=hb7.trans (hb8.mono hb7.size)
  have hM6:=hide (h.out.below hB6.out)
  have hsr6:=(hM6.out.in_.sig s HS2.out).2
  obtain⟨K,hK⟩:∃K:KX,K=⟨bs+1,bs,.pointer (some ⟨g,0,none⟩),.slice sl.at_ sl.l.length sl.cap,.slice s.p.at_ s.p.l.length s.p.cap,.slice s.r.at_ s.r.l.length s.r.cap,none⟩:=⟨_,rfl⟩
  have hKE:Hid (KE W6 K g m sl s.p s.r):=by subst hK;exact⟨rfl,rfl,rfl,rfl,hM6.out,HRL6.out,hsr6,by rw[hbs];exact Nat.le_refl _,fun q e=>by cases e⟩
  have hKbs:K.bs=bs:=by rw[hK]
  have hKcb:K.cb=bs+1:=by rw[hK]
  have hx78:=(hb8.block bs (by omega)).trans hx7
  have hCK:Hid (CK W8 (K.to none) (.slice none 0 0) (.slice (some ⟨bs,0,none⟩) 1 1) [⟨false,false,s.r,0,false⟩] []):=by
   subst hK
   refine⟨hx8,Nat.le_succ _,own_nil _ _ _ _,⟨by simp[CB.cs],.inr ⟨bs,1,#[.bool false,.bool false,.slice s.r.at_ s.r.l.length s.r.cap,.int .i64 0,.bool false],rfl,Nat.le_refl _,hx78,Nat.le_refl _,by unfold maxLen;omega,by simp,by simp[CB.cs,Sl.val]⟩⟩,fun e=>(by cases e),fun e=>?_,fun q e=>(by cases e),fun b hb=>?_,fun q e=>(by cases e)⟩
   ·exact absurd e (by simp[Value.ownBlock,KX.to])
   ·simp only[List.mem_singleton]at hb
    subst hb
    refine⟨hsr6.below hb68,fun h0 ad ha=>?_,fun h0 ad ha e=>by cases e⟩
    obtain⟨ad',ha',hlt',_⟩:=hsr6.r.2 h0
    have e3:ad'=ad:=by rw[ha]at ha';injection ha' with e;exact e.symm
    subst e3
    rw[hbs]at hlt'
    refine⟨by rw[hs8];omega,by show ad'.block≠bs+1;omega,fun e=>(by cases e),fun e=>?_⟩
    have e4:bs=ad'.block:=by simpa [Value.ownBlock]using e
    omega
  have hPE:Hid (peOf m.g f=⟨m.g,sl.l,s.p.l,s.r.l⟩):=by
   show _=_
   unfold peOf
   rw[show m.g.imps.length+f=fi from HFI.out,HS3.out,hsl.out]
   have:m.g.funcs.getD f noFu=y.g:=getD_some (by simp[MoL.g,HY.out])
   rw[this]
   rfl
  obtain⟨hall,_,hnest⟩:=errB_ok HEN.out
  have HALL:Hid (∀x∈y.bd.l.l,rightX x.x=true):=fun x hx=>hall x.x (List.mem_map.2 ⟨x,hx,rfl⟩)
  have hR2:Hid (runC (stepX (peOf m.g f)) (y.bd.l.l.map XL.x) (psOf [⟨false,false,s.r,0,false⟩] []) 0 []=R):=by
   have e1:=HR.out
   rw[HEN.out,if_neg (by omega)]at e1
   show _=_
   rw[←e1]
   unfold runB2
   have:m.g.funcs.getD f noFu=y.g:=getD_some (by simp[MoL.g,HY.out])
   rw[this,hPE.out]
   rfl
  have hI0:Hid (RunI (codesB y.bd.g) ((y.bd.l.l.drop 0).map (fun x=>x.code)) 0 (psOf [⟨false,false,s.r,0,false⟩] []) 1 initN):=by
   have:=RunI.start hnest (r:=s.r.l) s6
   rw[List.drop_zero]
   show RunI _ _ _ _ _ _
   rw[show (y.bd.l.l.map fun x=>x.code)=codesB y.bd.g from by simp[codesB,BdL.g,XL.x]]
   exact this
  have HB68:=hide hb68
  have HW7:=hide hW7;have HW8:=hide hW8;have HBS:=hide hbs;have HS8:=hide hs8;have HKB:=hide hKbs;have HKC:=hide hKcb
  have hml8:Hid (W6.cell? ⟨1,0,none⟩=some (.int .i64 ml)):=(hB6.out.cell (World.block_lt_of_cell? w _ hml.out)).trans hml.out
  have HX8:Hid (W8.heap[yg]?=some (.cells #[.slice y.bd.loc.at_ y.bd.loc.l.length y.bd.loc.cap,.slice y.bd.l.at_ y.bd.l.l.length y.bd.l.cap] 77 (0,0))):=(hb68.block yg (blk_lt HX6.out)).trans HX6.out
  have d1:=cell_blk HX8.out 1
  simp at d1
  clear hW7 hW8 hb7 hb8 hx7 hx8 hs7 hs8 hbs hK hKbs hKcb hx78 hb68 hsr6 hall hnest
  go_upto_region 12 with fail
  rw[HW6.out,HSG.out]
  go_upto_region 13 with fail
  rw[HBS.out,HW7.out,HW8.out]
  go_wp2_with fail
  go_loopw [17,18,19,20,77] (fun v a b c i w1=>∃(k:Nat) (vs vb:Value) (cs:List CB) (st:List UInt8) (hs:List Nat) (ns:NS),i=.int .i64 k∧k≤y.bd.l.l.length∧Hid (HT w1 (bs+2) vs vb v hs)∧Hid (CK w1 (K.to v.ownBlock) vs vb cs st)∧Hid (Below W6.heap.size W6 w1)∧hs.length=k∧Hid (RunI (codesB y.bd.g) ((y.bd.l.l.drop k).map (fun x=>x.code)) k (psOf cs st) cs.length ns)∧Hid (runC (stepX (peOf m.g f)) ((y.bd.l.l.drop k).map XL.x) (psOf cs st) k hs=R)) (fun _ _ _ _ i _=>y.bd.l.l.length-(intOf i).toNat)
  case atStart=>exact⟨0,_,_,_,_,[],initN,rfl,by omega,⟨own_nil _ _ _ _,fun q e=>by cases e⟩,hCK,HB68,rfl,hI0,hR2⟩
  case round =>
   obtain⟨k,vs,vb,cs,st,hs,ns,rfl,hk,hht,hck,hbw,hhl,hri,hrr⟩:=hrel
   have HHL:=hide hhl
   clear hhl
   by_cases hlt2:k<y.bd.l.l.length
   ·obtain⟨x,hx⟩:∃x,y.bd.l.l[k]?=some x:=⟨_,List.getElem?_eq_getElem hlt2⟩
    have hmem:=List.mem_of_getElem? hx
    have hdrop:y.bd.l.l.drop k=x::y.bd.l.l.drop (k+1):=by
     rw[List.drop_eq_getElem_cons hlt2]
     rw[List.getElem?_eq_getElem hlt2]at hx
     injection hx with hx
     rw[hx]
    have hin:=((hM6.out.below hbw.out).in_.func y HYM.out).2
    have hin6:=(hM6.out.in_.func y HYM.out).2
    obtain⟨ax,hax,_,k0,kj⟩:=hin.l.at_ (fun _=>rfl) hx
    have q0:wr.cell? (ax.add (k*5))=some (.int .i64 x.code):=k0 _ rfl (by omega)
    have q1:wr.cell? ⟨(ax.add (k*5)).block,(ax.add (k*5)).off+1,none⟩=some (.int .u64 (x.a:Int)):=kj 1 (by omega) (by omega) _ rfl
    have q2:wr.cell? ⟨(ax.add (k*5)).block,(ax.add (k*5)).off+2,none⟩=some (.int .u64 (x.b:Int)):=kj 2 (by omega) (by omega) _ rfl
    have q3:wr.cell? ⟨(ax.add (k*5)).block,(ax.add (k*5)).off+3,none⟩=some (.int .i64 x.al):=kj 3 (by omega) (by omega) _ rfl
    have q4:wr.cell? ⟨(ax.add (k*5)).block,(ax.add (k*5)).off+4,none⟩=some (.slice x.l.at_ x.l.l.length x.l.cap):=kj 4 (by omega) (by omega) _ rfl
    obtain⟨W9,hW9,hb9,hx9,hs9⟩:=box_new wr #[.int .i64 x.code,.int .u64 (x.a:Int),.int .u64 (x.b:Int),.int .i64 x.al,.slice x.l.at_ x.l.l.length x.l.cap] 133
    obtain⟨xg,hxg⟩:∃xg,wr.heap.size=xg:=⟨_,rfl⟩
    rw[hxg]at hx9
    have hck9:=hide (hck.out.quiet hb9)
    have hht9:=hide (hht.out.step (K:=K) (by rw[HKC.out];omega) (NW.of_below hb9))
    have hbw9:=hide (hbw.out.trans (hb9.mono hbw.out.size))
    have hinv:=hide ((by rw[hdrop]at hri;exact hri.out.inv:InvP (psOf cs st)))
    have hstl:st.length≤10000000:=by have:=hri.out.st;have h5:(psOf cs st).st.length=st.length:=rfl;omega
    have hcsl:cs.length≤100000:=by have:=hri.out.bl;omega
    have c4:W9.cell? ⟨bs+1,4,none⟩=some vs:=by rw[←HKC.out];exact hck9.out.c4
    obtain⟨As,qs,hvs,_,_⟩:=own_form hck9.out.os
    subst hvs
    have HW9:=hide hW9;have HXG:=hide hxg;have HX9:=hide hx9;have HXX:=hide hx;have HMEM:=hide hmem;have HDR:=hide hdrop
    have hroom:Room hs.length 1 8:=room_of (by have:=HHL.out;omega) (by omega)
    have hbse:bs+2≤W9.heap.size:=by have h7:K.cb<W9.heap.size:=hck9.out.size.2;have:=HKC.out;omega
    have hxu:Hid (u17.ownBlock≠some xg):=fun e=>by have:=own_lt hht.out.own _ e;omega
    rw[hax]
    clear hW9 hxg hb9 hx9 hs9 hx hmem hdrop hin k0 kj hax hck hht hbw
    go_upto_region 17 with fail
    rw[HXG.out,HW9.out]
    go_wp2_with (at_builtin;refine wpList_push rfl _ _ rfl (bs+2) int_elem u17 hs.length (hs.map hD) rfl W9 _ _ rfl hht9.out.own rfl rfl hroom hbse ?_;intro v' w' ho' hg';have hxa:=(hg'.only.block xg (blk_lt HX9.out) (fun hm=>hxu.out (by simpa using hm))).trans HX9.out;have i0:=cell_blk hxa 0;have i1:=cell_blk hxa 1;have i2:=cell_blk hxa 2;have i3:=cell_blk hxa 3;have i4:=cell_blk hxa 4;simp at i0 i1 i2 i3 i4;clear hxa)
    have hcb2:K.cb<bs+2:=by have:=HKC.out;omega
    obtain⟨hck10,hht10⟩:=hck9.out.grow hht9.out hcb2 hg' ho'
    have HCK:=hide hck10;have HHT:=hide hht10
    have hbw10:=hide (hbw9.out.trans (hg'.below hbw9.out.size (fun q hq=>by have:=own_ge hht9.out.own q hq;have:=HBS.out;omega)))
    obtain⟨RZ,hRZ⟩:∃RZ,stepX (peOf m.g f) (psOf cs st) x.x=RZ:=⟨_,rfl⟩
    have HSF:=hide (csafe_any (K.to v'.ownBlock) _ vb cs st x w' RZ HCK (fun V hV=>by
     obtain⟨r,hor,_,_⟩:=right_some (HALL.out x HMEM.out)
     have hst:=cstep_any (K.to v'.ownBlock) _ vb cs st x V W6 g m sl s.p s.r r ml (hide (HCK.out.quiet hV)) (hide (hKE.out.to_far v'.ownBlock (fun q hq=>by have:=own_ge HHT.out.own q hq;have:=HBS.out;omega))) hinv hstl hcsl (hide (hin6.num x HMEM.out)) (hide (hin6.lab x HMEM.out)) (hide (hbw10.out.trans (hV.mono hbw10.out.size))) hz (by have:=congrArg List.length hsl.out;rw[List.length_append]at this;omega) ((hbz.out y HYM.out).lab x HMEM.out) s6 hor (right_al (HALL.out x HMEM.out)) hml8
     have e1:stepX (peOf m.g f) (psOf cs st) x.x=stepP ⟨m.g,sl.l,s.p.l,s.r.l⟩ (psOf cs st) x.x r.form (widthN r.name.data.toList) (typesL r.takes) (typesL r.gives):=by
      unfold stepX
      rw[hor,hPE.out]
     rw[←e1,hRZ]at hst
     exact hst))
    have HRZ:=hide hRZ
    rw[show (K.to v'.ownBlock).cb=bs+1 from HKC.out]at HSF
    unfold insV2 at HSF
    clear hRZ ho' hg' hck10 hht10 c4 q0 q1 q2 q3 q4 hck9 hht9
    cases RZ with
    | bad n =>
     have hnz:=hide ((nz_step_x HRZ.out (by obtain⟨r,hor,_,_⟩:=right_some (HALL.out x HMEM.out);show (opRow x.x.code).isSome=true;rw[hor];rfl):n≠0))
     have hne:((n:Int) != 0)=true:=by have:=hnz.out;simp;omega
     have hRf:Hid (R=([],k,n)):=by
      have e1:=hrr.out
      rw[HDR.out,List.map_cons,runC,HRZ.out]at e1
      exact e1.symm
     unfold SafeP at HSF
     simp only at HSF
     go_wp2_with fail
     refine HSF.out.mono ?_;rintro e w11 ⟨rfl,hb11⟩
     have hfin:Hid (Below w.heap.size w w11):=by
      have h1:Below W6.heap.size w' w11:=hb11.out.mono (by show W6.heap.size≤K.bs;rw[HKB.out,HBS.out];exact Nat.le_refl _)
      exact hB6.out.trans ((hbw10.out.trans h1).mono hB6.out.size)
     clear i0 i1 i2 i3 i4 HSF hb11
     go_wp2_with fail
     go_ret3
     rw[hRf.out]
     exact⟨none,0,rfl,own_nil _ _ _ _,hfin⟩
    | ok s2 =>
     unfold SafeP at HSF
     simp only at HSF
     go_wp2_with fail
     refine HSF.out.mono ?_;rintro e w11 ⟨vs2,vb2,cs2,rfl,hk2,hn2,hbl2⟩
     have hps:psOf cs2 s2.st=s2:=psOf_eq hbl2.out
     have hl2:s2.bl.length=cs2.length:=by rw[hbl2.out,List.length_map]
     have hht11:=hide (HHT.out.step (K:=K) hcb2 hn2.out)
     have hbw11:Hid (Below W6.heap.size W6 w11):=hbw10.out.trans ((hn2.out.belowB HCK.out).mono (by show W6.heap.size≤K.bs;rw[HKB.out,HBS.out];exact Nat.le_refl _))
     have hri2:Hid (RunI (codesB y.bd.g) ((y.bd.l.l.drop (k+1)).map (fun x=>x.code)) (k+1) (psOf cs2 s2.st) cs2.length (stepN (codesB y.bd.g) x.code k ns).2):=by
      have e1:=hri.out
      rw[HDR.out,List.map_cons,show cs.length=(psOf cs st).bl.length from by simp[psOf]]at e1
      have e2:=RunI.step (x:=x.x) e1 HRZ.out (fun i=>by rw[hPE.out];exact MoL.sigs_r hz.out i)
      rw[hl2]at e2
      show RunI _ _ _ _ _ _
      rw[hps]
      exact e2
     have hrr2:Hid (runC (stepX (peOf m.g f)) ((y.bd.l.l.drop (k+1)).map XL.x) (psOf cs2 s2.st) (k+1) (hs++[st.length])=R):=by
      have e1:=hrr.out
      rw[HDR.out,List.map_cons,runC,HRZ.out]at e1
      show _=_
      rw[hps]
      exact e1
     have hhl2:Hid ((hs++[st.length]).length=k+1):=by show _=_;simp[HHL.out]
     clear i0 i1 i2 i3 i4 HSF hps hl2
     go_wp2_with fail
     go_roundw
     case rel=>exact⟨k+1,vs2,vb2,cs2,s2.st,hs++[st.length],_,by go_num,by omega,hht11,hk2,hbw11,hhl2.out,hri2,hrr2⟩
     case measure=>simp[intOf]<;>omega
   ·have hkn:k=y.bd.l.l.length:=by omega
    have hRf:Hid (R=(hs,0,0)):=by
     have e1:=hrr.out
     rw[List.drop_of_length_le (by omega),List.map_nil,runC]at e1
     exact e1.symm
    obtain⟨A9,c9,hv9,_,_⟩:=own_form hht.out.own
    subst hv9
    have HOW:=hide hht.out.own
    have hfin:Hid (Below w.heap.size w wr):=hB6.out.trans (hbw.out.mono hB6.out.size)
    have hlt3:(y.bd.l.l.length:Int)≤(k:Int):=by omega
    clear hlt2 hkn hht hck
    go_wp2_with fail
    go_ret3
    rw[hRf.out]
    exact⟨A9,c9,rfl,own_base HOW.out (fun q hq=>by have:=own_ge HOW.out q hq;have:=HBS.out;have:=hB6.out.size;omega),hfin⟩
 ·have hne:((en:Int) != 0)=true:=by simp;omega
  have HRB:Hid (R=([],0,en)):=by have:=HR.out;rw[HEN.out,if_pos he]at this;exact this.symm
  clear he
  go_wp2_with fail
  go_ret3
  rw[HRB.out]
  exact⟨none,0,rfl,own_nil _ _ _ _,hB4⟩
theorem run_any (g:Nat) (m:MoL) (f:Int) (w:World) (ml:Int) (h:Hid (MoAt w g m)) (hz:Hid (MoSz m)) (hbz:Hid (∀y∈m.funcs.l,BdSz y.bd)) (hml:Hid (w.cell? ⟨1,0,none⟩=some (.int .i64 ml))) :
  Calls Tryz.prog 61 #[.pointer (some ⟨g,0,none⟩),.int .i64 f] w (RunP w (runP m.g f)):=by
 have hfl:m.g.funcs.length=m.funcs.l.length:=by simp[MoL.g]
 unfold runP
 by_cases hu:(unfitP m.g).2=0
 ·rw[if_neg (by omega)]
  by_cases hf:inB f m.funcs.l.length=true
  ·rw[hfl,if_pos hf]
   obtain⟨f1,f2⟩:=inB_iff.1 hf
   obtain⟨k,rfl⟩:∃k:Nat,f=(k:Int):=⟨f.toNat,by omega⟩
   have hk:k<m.funcs.l.length:=by omega
   have hy:m.funcs.l[k]?=some m.funcs.l[k]:=List.getElem?_eq_getElem hk
   have hg:m.g.funcs.getD (k:Int).toNat noFu=m.funcs.l[k].g:=getD_some (by simp[MoL.g,hk])
   rw[hg]
   exact run_in g m k m.funcs.l[k] w ml h hz hbz hu hy hml
  ·rw[hfl,if_neg hf]
   refine run_out g m f w h hz hu ?_
   have:¬(0≤f∧f<(m.funcs.l.length:Int)):=fun h=>hf (inB_iff.2 h)
   omega
 ·rw[if_pos hu]
  exact run_unfit g m f w h hz hu
set_option maxRecDepth 100000 in
theorem func_of (pm:Value) (f:Int) (w:World) (r:List Nat×Nat×Nat) (h:Hid (Calls Tryz.prog 61 #[pm,.int .i64 f] w (RunP w r))) :
  Calls Tryz.prog 29 #[pm,.int .i64 f] w fun e w'=>e=.returned (.tuple #[.int .i64 (r.2.1:Int),.int .i64 (r.2.2:Int)])∧Hid (Below w.heap.size w w'):=by
 obtain⟨hs,at_,er⟩:=r
 go_enter Tryz.func29,Tryz.ntmps29
 go_wp2_with fail
 refine h.out.mono ?_;rintro e w1 ⟨A,c,rfl,ho,hb⟩
 go_wp2_with fail
 go_ret2
 exact⟨rfl,hb⟩
def withF (m:Mo) (F:List MFu):Mo:={ m with funcs:=F }
structure SameF (m:Mo) (F:List MFu):Prop where
 len:F.length=m.funcs.length
 sig:∀k,(F.getD k noFu).sig=(m.funcs.getD k noFu).sig
theorem all_w {m:Mo} {F:List MFu} (h:SameF m F):(withF m F).all=m.all:=by show m.imps.length+F.length=_;rw[h.len];rfl
theorem sigN_w {m:Mo} {F:List MFu} (h:SameF m F) (f:Nat):sigN (withF m F) f=sigN m f:=by
 show (if f<m.imps.length then (m.imps.getD f noIm).sig else (F.getD (f-m.imps.length) noFu).sig)=_
 rw[h.sig];rfl
theorem sigOf_w {m:Mo} {F:List MFu} (h:SameF m F) (f:Nat):sigOf (withF m F) f=sigOf m f:=by
 unfold sigOf;rw[sigN_w h];rfl
theorem hasSig_w {m:Mo} {F:List MFu} (h:SameF m F) (f:Nat):hasSig (withF m F) f=hasSig m f:=by
 unfold hasSig;rw[sigN_w h,all_w h];rfl
theorem part_w {m:Mo} {F:List MFu} (h:SameF m F):∀j,partE (withF m F) j=partE m j
 | 0=>rfl
 | 1=>rfl
 | 2=>by
  show fusE _=fusE _
  unfold fusE
  rw[all_w h,show (withF m F).funcs.length=m.funcs.length from h.len,firstI_congr (g:=fuE m) (fun i _=>by unfold fuE;rw[show ((withF m F).funcs.getD i noFu).sig=_ from h.sig i];rfl)]
 | 3=>rfl
 | 4=>rfl
 | 5=>rfl
 | 6=>by
  show manyI _ _ _=manyI _ _ _
  congr 1
  funext i
  unfold exE exK
  rw[all_w h];rfl
 | 7=>by
  show stE _=stE _
  unfold stE
  rw[all_w h,sigOf_w h];rfl
 | 8=>by
  show manyI _ _ _=manyI _ _ _
  congr 1
  funext i
  unfold elE
  rw[all_w h];rfl
 | 9=>rfl
 | _+10=>rfl
theorem unfitFrom_w {m:Mo} {F:List MFu} (h:SameF m F):∀n i,unfitFrom (withF m F) n i=unfitFrom m n i
 | 0,i=>rfl
 | n+1,i=>by unfold unfitFrom;rw[part_w h,unfitFrom_w h n (i+1)]
theorem unfit_w {m:Mo} {F:List MFu} (h:SameF m F):unfitP (withF m F)=unfitP m:=unfitFrom_w h 10 0
theorem step_w {m:Mo} {F:List MFu} (h:SameF m F) (l p r:List UInt8):stepX ⟨withF m F,l,p,r⟩=stepX ⟨m,l,p,r⟩:=by
 funext s x
 unfold stepX
 cases opRow x.code with
 | none=>rfl
 | some row =>
  have hc:callP ⟨withF m F,l,p,r⟩ s x=callP ⟨m,l,p,r⟩ s x:=by
   unfold callP
   simp only[hasSig_w h,sigOf_w h]
   rfl
  simp only[stepP]
  rw[hc]
  rfl
end Go.Proofs.YtmekgpdfiimofaaGreatDoor
