import Derived.Test.YtmekgpdfiimofaaGreatDoorWBH
import Derived.Test.YtmekgpdfiimofaaGreatDoorRows
import Derived.RowKit
import Derived.Test.YtmekgpdfiimofaaGreatDoorWAH
import Derived.Test.YtmekgpdfiimofaaGreatDoorWAL
set_option linter.unusedVariables false
namespace Go.Proofs.YtmekgpdfiimofaaGreatDoor
open Go.RowKit
structure Fnd where
 wh:List UInt8
 fn:Int
 pl:Nat
 er:Nat
def funcW:List UInt8:=[102,117,110,99]
def allF (m:Mo) (i:Nat):List Fnd:=if (runP m (i:Int)).2.2=0 then []else [⟨funcW,(i:Int),(runP m (i:Int)).2.1,(runP m (i:Int)).2.2⟩]
def allP (m:Mo):List Fnd:=if (unfitP m).2≠0 then [⟨(unfitP m).1,-1,0,(unfitP m).2⟩]else (List.range m.funcs.length).flatMap (allF m)
def stopB:MBd:=⟨[],[⟨0,0,0,0,[]⟩,⟨11,0,0,0,[]⟩]⟩
theorem stop_err:errB stopB=0:=by decide +kernel
theorem pops_dead {b:PB} (hb:b.h=0) (hd:b.dead=true):∀l:List UInt8,popsR ⟨[],[b]⟩ l=.ok ⟨[],[b]⟩
 | []=>rfl
 | t::l=>by
  have h1:popP ⟨[],[b]⟩ t=.ok (⟨[],[b]⟩,t):=by
   unfold popP
   have ht:(PS.mk [] [b]).top=b:=rfl
   rw[ht,hb,hd]
   rfl
  rw[popsR,h1]
  exact pops_dead hb hd l
theorem stop_run (pe:PE):runC (stepX pe) stopB.l (ps0 pe.r) 0 []=([0,0],0,0):=by
 have hx0:stepX pe (ps0 pe.r) ⟨0,0,0,0,[]⟩=.ok (killP (ps0 pe.r)):=by
  obtain⟨r,hr⟩:∃r,opRow 0=some r:=Option.isSome_iff_exists.1 (by decide +kernel)
  unfold stepX
  rw[hr]
  rfl
 have hk:killP (ps0 pe.r)=⟨[],[⟨false,false,pe.r,0,true⟩]⟩:=rfl
 have hx1:stepX pe ⟨[],[⟨false,false,pe.r,0,true⟩]⟩ ⟨11,0,0,0,[]⟩=.ok ⟨pe.r,[]⟩:=by
  obtain⟨r,hr⟩:∃r,opRow 11=some r:=Option.isSome_iff_exists.1 (by decide +kernel)
  unfold stepX
  rw[hr]
  show endP _=_
  unfold endP closeP popsP
  have ht:(PS.mk [] [(⟨false,false,pe.r,0,true⟩:PB)]).top=⟨false,false,pe.r,0,true⟩:=rfl
  rw[ht,pops_dead rfl rfl]
  simp[RR.then,need,pushP]
 show runC (stepX pe) [⟨0,0,0,0,[]⟩,⟨11,0,0,0,[]⟩] (ps0 pe.r) 0 []=_
 rw[runC,hx0]
 simp only[hk]
 rw[runC,hx1]
 rfl
theorem runP_stop {m:Mo} {i:Nat} (hu:(unfitP m).2=0) (hi:i<m.funcs.length) (hb:(m.funcs.getD i noFu).bd=stopB):(runP m (i:Int)).2.2=0:=by
 have hin:inB (i:Int) m.funcs.length=true:=inB_iff.2 ⟨by omega,by omega⟩
 unfold runP
 rw[if_neg (fun h=>h hu),if_pos hin,Int.toNat_natCast,hb,stop_err,if_neg (fun h=>h rfl)]
 unfold runB2
 rw[hb,stop_run]
theorem runP_alone {m:Mo} {F:List MFu} {f:Nat} (hS:SameF m F) (hu:(unfitP m).2=0) (hf:f<m.funcs.length) (hb:(F.getD f noFu).bd=(m.funcs.getD f noFu).bd):runP (withF m F) (f:Int)=runP m (f:Int):=by
 have hin:inB (f:Int) m.funcs.length=true:=inB_iff.2 ⟨by omega,by omega⟩
 have hA:((withF m F).funcs.getD f noFu).bd=(m.funcs.getD f noFu).bd:=hb
 have hpe:peOf (withF m F) f=⟨withF m F,(peOf m f).loc,(peOf m f).p,(peOf m f).r⟩:=by
  unfold peOf
  rw[hA,show (withF m F).imps=m.imps from rfl,sigOf_w hS]
 unfold runP
 rw[unfit_w hS,show (withF m F).funcs.length=m.funcs.length from hS.len,if_neg (fun h=>h hu),if_pos hin,Int.toNat_natCast,hA]
 split
 ·rw[if_neg (fun h=>h hu)]
 ·rw[if_neg (fun h=>h hu)]
  unfold runB2
  rw[hA,hpe,step_w hS]
  rfl
theorem all_alone {m:Mo} {F:List MFu} {f:Nat} (hS:SameF m F) (hu:(unfitP m).2=0) (hf:f<m.funcs.length) (hb:(F.getD f noFu).bd=(m.funcs.getD f noFu).bd) (ho:∀i,i<m.funcs.length→i≠f→(F.getD i noFu).bd=stopB) :
  allP (withF m F)=allF m f∧(allP m).filter (fun x=>x.fn==(f:Int))=allF m f:=by
 have hu2:(unfitP (withF m F)).2=0:=by rw[unfit_w hS];exact hu
 have hlen:(withF m F).funcs.length=m.funcs.length:=hS.len
 have hone:∀n,f<n→n≤m.funcs.length→(List.range n).flatMap (allF (withF m F))=allF m f:=by
  intro n
  induction n with
  | zero=>intro h;omega
  | succ n ih =>
   intro h1 h2
   rw[List.range_succ,List.flatMap_append]
   simp only[List.flatMap_cons,List.flatMap_nil,List.append_nil]
   by_cases hnf:n=f
   ·subst hnf
    have hz:(List.range n).flatMap (allF (withF m F))=[]:=by
     rw[List.flatMap_eq_nil_iff]
     intro i hi
     have hi:=List.mem_range.1 hi
     unfold allF
     rw[if_pos (runP_stop hu2 (by omega) (ho i (by omega) (by omega)))]
    rw[hz,List.nil_append]
    unfold allF
    rw[runP_alone hS hu hf hb]
   ·have hz:allF (withF m F) n=[]:=by
     unfold allF
     rw[if_pos (runP_stop hu2 (by omega) (ho n (by omega) hnf))]
    rw[hz,List.append_nil]
    exact ih (by omega) (by omega)
 have htwo:∀n,n≤m.funcs.length→((List.range n).flatMap (allF m)).filter (fun x=>x.fn==(f:Int))=if f<n then allF m f else []:=by
  intro n
  induction n with
  | zero=>intro _;rfl
  | succ n ih =>
   intro h2
   rw[List.range_succ,List.flatMap_append,List.filter_append,ih (by omega)]
   simp only[List.flatMap_cons,List.flatMap_nil,List.append_nil]
   by_cases hnf:n=f
   ·subst hnf
    rw[if_neg (by omega),if_pos (by omega),List.nil_append]
    unfold allF
    split
    ·rfl
    ·simp
   ·have hz:(allF m n).filter (fun x=>x.fn==(f:Int))=[]:=by
     unfold allF
     split
     ·rfl
     ·have hne:((n:Int)==(f:Int))=false:=by simp;omega
      simp[hne]
    rw[hz,List.append_nil]
    by_cases hlt:f<n
    ·rw[if_pos hlt,if_pos (by omega)]
    ·rw[if_neg hlt,if_neg (by omega)]
 unfold allP
 rw[if_neg (fun h=>h hu2),if_neg (fun h=>h hu),hlen,hone _ hf (Nat.le_refl _),htwo _ (Nat.le_refl _),if_pos hf]
 exact⟨rfl,rfl⟩
def byD (n:Int):List Value:=[.int .u8 n]
def byOk (n:Int):Prop:=(Lit.int .u8 n).wf=true
abbrev RIA:=Int×Int×Int×Int×Sl Int×Unit
def wdD (n:Int):List Value:=[.int .u64 n]
def wdOk (n:Int):Prop:=(Lit.int .u64 n).wf=true
def nmD (n:Int):List Value:=[.int .i64 n]
def nmOk (n:Int):Prop:=(Lit.int .i64 n).wf=true
def riaD (x:RIA):List Value:=[.int .i64 x.1]++([.int .u64 x.2.1]++([.int .u64 x.2.2.1]++([.int .i64 x.2.2.2.1]++([x.2.2.2.2.1.val]++[]))))
def riaOk (w:World) (x:RIA):Prop:=(Lit.int .i64 x.1).wf=true∧(Lit.int .u64 x.2.1).wf=true∧(Lit.int .u64 x.2.2.1).wf=true∧(Lit.int .i64 x.2.2.2.1).wf=true∧x.2.2.2.2.1.Ok w wdD 1 8 wdOk∧True
abbrev SgA:=Sl Int×Sl Int×Unit
def sgD (x:SgA):List Value:=[x.1.val]++([x.2.1.val]++[])
def sgOk (w:World) (x:SgA):Prop:=x.1.Ok w byD 1 1 byOk∧x.2.1.Ok w byD 1 1 byOk∧True
abbrev ImA:=ByteArray×ByteArray×Int×Unit
def imD (x:ImA):List Value:=[.string x.1]++([.string x.2.1]++([.int .i64 x.2.2.1]++[]))
def imOk (x:ImA):Prop:=x.1.size≤140737488351232∧x.2.1.size≤140737488351232∧(Lit.int .i64 x.2.2.1).wf=true∧True
abbrev BdA:=Sl Int×Sl RIA×Unit
def bdD (x:BdA):List Value:=[x.1.val]++([x.2.1.val]++[])
def bdOk (w:World) (x:BdA):Prop:=x.1.Ok w byD 1 1 byOk∧x.2.1.Ok w riaD 5 56 (riaOk w)∧True
abbrev FnA:=Int×BdA×Unit
def fnD (x:FnA):List Value:=[.int .i64 x.1]++(bdD x.2.1++[])
def fnOk (w:World) (x:FnA):Prop:=(Lit.int .i64 x.1).wf=true∧bdOk w x.2.1∧True
abbrev LmA:=Int×Int×Bool×Unit
def lmD (x:LmA):List Value:=[.int .i64 x.1]++([.int .i64 x.2.1]++([.bool x.2.2.1]++[]))
def lmOk (x:LmA):Prop:=(Lit.int .i64 x.1).wf=true∧(Lit.int .i64 x.2.1).wf=true∧True∧True
abbrev GlA:=Int×Bool×Int×Unit
def glD (x:GlA):List Value:=[.int .u8 x.1]++([.bool x.2.1]++([.int .u64 x.2.2.1]++[]))
def glOk (x:GlA):Prop:=(Lit.int .u8 x.1).wf=true∧True∧(Lit.int .u64 x.2.2.1).wf=true∧True
abbrev ExA:=ByteArray×Int×Int×Unit
def exD (x:ExA):List Value:=[.string x.1]++([.int .i64 x.2.1]++([.int .i64 x.2.2.1]++[]))
def exOk (x:ExA):Prop:=x.1.size≤140737488351232∧(Lit.int .i64 x.2.1).wf=true∧(Lit.int .i64 x.2.2.1).wf=true∧True
abbrev ElA:=Int×Sl Int×Unit
def elD (x:ElA):List Value:=[.int .u64 x.1]++([x.2.1.val]++[])
def elOk (w:World) (x:ElA):Prop:=(Lit.int .u64 x.1).wf=true∧x.2.1.Ok w nmD 1 8 nmOk∧True
abbrev DtA:=Int×Int×Sl Int×Unit
def dtD (x:DtA):List Value:=[.int .i64 x.1]++([.int .u64 x.2.1]++([x.2.2.1.val]++[]))
def dtOk (w:World) (x:DtA):Prop:=(Lit.int .i64 x.1).wf=true∧(Lit.int .u64 x.2.1).wf=true∧x.2.2.1.Ok w byD 1 1 byOk∧True
abbrev MoA:=Sl SgA×Sl ImA×Sl FnA×Int×Sl LmA×Sl GlA×Sl ExA×Int×Sl ElA×Sl DtA×Unit
def moD (x:MoA):List Value:=[x.1.val]++([x.2.1.val]++([x.2.2.1.val]++([.int .i64 x.2.2.2.1]++([x.2.2.2.2.1.val]++([x.2.2.2.2.2.1.val]++([x.2.2.2.2.2.2.1.val]++([.int .i64 x.2.2.2.2.2.2.2.1]++([x.2.2.2.2.2.2.2.2.1.val]++([x.2.2.2.2.2.2.2.2.2.1.val]++[])))))))))
def moOk (w:World) (x:MoA):Prop:=x.1.Ok w sgD 2 48 (sgOk w)∧x.2.1.Ok w imD 3 40 imOk∧x.2.2.1.Ok w fnD 3 56 (fnOk w)∧(Lit.int .i64 x.2.2.2.1).wf=true∧x.2.2.2.2.1.Ok w lmD 3 24 lmOk∧x.2.2.2.2.2.1.Ok w glD 3 16 glOk∧x.2.2.2.2.2.2.1.Ok w exD 3 32 exOk∧(Lit.int .i64 x.2.2.2.2.2.2.2.1).wf=true∧x.2.2.2.2.2.2.2.2.1.Ok w elD 2 32 (elOk w)∧x.2.2.2.2.2.2.2.2.2.1.Ok w dtD 3 40 (dtOk w)∧True
section
variable {H:Type} {enc:TypeId×Value→H} {w:World}
set_option maxRecDepth 100000
theorem strR_opens {P:Program} {e:TypeId} (he:P.underlying e=some .string):Opens enc P w e (fun s:ByteArray=>[.string s]) (fun s=>s.size≤140737488351232):=by
 intro spare held m cs y h hw
 obtain⟨s,rfl,hy,hs⟩:=DataW.trod_string he h
 refine⟨s,rfl,?_⟩
 have:=hw s.size (by rw[hy];simp[DataW.weights])
 simpa [reachBytes]using this
theorem by_opens:Opens enc Tryz.prog w 40 (fun s:Sl Int=>[s.val]) (Sl.Ok w byD 1 1 byOk) :=
 Opens.slice Tryz.underlying40 (by kernel_rfl) (by kernel_rfl) (by omega) (fun _=>rfl) (Opens.int Tryz.underlying5)
theorem sg_opens:Opens enc Tryz.prog w 22 (fun s:Sl SgA=>[s.val]) (Sl.Ok w sgD 2 48 (sgOk w)) :=
 Opens.slice Tryz.underlying22 (by kernel_rfl) (by kernel_rfl) (by omega) (fun _=>rfl)
  (Opens.struct Tryz.underlying72 (by kernel_rfl) (OpensF.cons (k:=1) (dec:=fun s:Sl Int=>[s.val]) (ok:=Sl.Ok w byD 1 1 byOk) rfl (by kernel_rfl) (by exact by_opens) (OpensF.cons (k:=1) (dec:=fun s:Sl Int=>[s.val]) (ok:=Sl.Ok w byD 1 1 byOk) rfl (by kernel_rfl) (by exact by_opens) OpensF.nil)))
theorem im_opens:Opens enc Tryz.prog w 23 (fun s:Sl ImA=>[s.val]) (Sl.Ok w imD 3 40 imOk) :=
 Opens.slice Tryz.underlying23 (by kernel_rfl) (by kernel_rfl) (by omega) (fun _=>rfl)
  (Opens.struct Tryz.underlying90 (by kernel_rfl) (OpensF.cons (k:=1) rfl (by kernel_rfl) (strR_opens Tryz.underlying9) (OpensF.cons (k:=1) rfl (by kernel_rfl) (strR_opens Tryz.underlying9) (OpensF.cons (k:=1) rfl (by kernel_rfl) (Opens.int Tryz.underlying3) OpensF.nil))))
theorem ria_opens:Opens enc Tryz.prog w 39 (fun s:Sl RIA=>[s.val]) (Sl.Ok w riaD 5 56 (riaOk w)) :=
 Opens.slice Tryz.underlying39 (by kernel_rfl) (by kernel_rfl) (by omega) (fun _=>rfl)
  (Opens.struct Tryz.underlying38 (by kernel_rfl) (OpensF.cons (k:=1) rfl (by kernel_rfl) (Opens.int Tryz.underlying3) (OpensF.cons (k:=1) rfl (by kernel_rfl) (Opens.int Tryz.underlying35) (OpensF.cons (k:=1) rfl (by kernel_rfl) (Opens.int Tryz.underlying35)
   (OpensF.cons (k:=1) rfl (by kernel_rfl) (Opens.int Tryz.underlying3) (OpensF.cons (k:=1) rfl (by kernel_rfl) (Opens.slice (size:=1) (bytes:=8) Tryz.underlying36 (by kernel_rfl) (by kernel_rfl) (by omega) (fun _=>rfl) (Opens.int Tryz.underlying35)) OpensF.nil))))))
theorem bd_opens:Opens enc Tryz.prog w 42 bdD (bdOk w) :=
 Opens.struct Tryz.underlying42 (by kernel_rfl) (OpensF.cons (k:=1) (dec:=fun s:Sl Int=>[s.val]) (ok:=Sl.Ok w byD 1 1 byOk) rfl (by kernel_rfl) (by exact by_opens) (OpensF.cons (k:=1) (dec:=fun s:Sl RIA=>[s.val]) (ok:=Sl.Ok w riaD 5 56 (riaOk w)) rfl (by kernel_rfl) (by exact ria_opens) OpensF.nil))
theorem fn_opens:Opens enc Tryz.prog w 24 (fun s:Sl FnA=>[s.val]) (Sl.Ok w fnD 3 56 (fnOk w)) :=
 Opens.slice Tryz.underlying24 (by kernel_rfl) (by kernel_rfl) (by omega) (fun _=>rfl)
  (Opens.struct Tryz.underlying44 (by kernel_rfl) (OpensF.cons (k:=1) rfl (by kernel_rfl) (Opens.int Tryz.underlying3) (OpensF.cons (k:=2) (dec:=bdD) (ok:=bdOk w) rfl (by kernel_rfl) (by exact bd_opens) OpensF.nil)))
theorem lm_opens:Opens enc Tryz.prog w 25 (fun s:Sl LmA=>[s.val]) (Sl.Ok w lmD 3 24 lmOk) :=
 Opens.slice Tryz.underlying25 (by kernel_rfl) (by kernel_rfl) (by omega) (fun _=>rfl)
  (Opens.struct Tryz.underlying68 (by kernel_rfl) (OpensF.cons (k:=1) rfl (by kernel_rfl) (Opens.int Tryz.underlying3) (OpensF.cons (k:=1) rfl (by kernel_rfl) (Opens.int Tryz.underlying3) (OpensF.cons (k:=1) rfl (by kernel_rfl) (Opens.bool Tryz.underlying4) OpensF.nil))))
theorem gl_opens:Opens enc Tryz.prog w 26 (fun s:Sl GlA=>[s.val]) (Sl.Ok w glD 3 16 glOk) :=
 Opens.slice Tryz.underlying26 (by kernel_rfl) (by kernel_rfl) (by omega) (fun _=>rfl)
  (Opens.struct Tryz.underlying94 (by kernel_rfl) (OpensF.cons (k:=1) rfl (by kernel_rfl) (Opens.int Tryz.underlying92) (OpensF.cons (k:=1) rfl (by kernel_rfl) (Opens.bool Tryz.underlying4) (OpensF.cons (k:=1) rfl (by kernel_rfl) (Opens.int Tryz.underlying35) OpensF.nil))))
theorem ex_opens:Opens enc Tryz.prog w 27 (fun s:Sl ExA=>[s.val]) (Sl.Ok w exD 3 32 exOk) :=
 Opens.slice Tryz.underlying27 (by kernel_rfl) (by kernel_rfl) (by omega) (fun _=>rfl)
  (Opens.struct Tryz.underlying96 (by kernel_rfl) (OpensF.cons (k:=1) rfl (by kernel_rfl) (strR_opens Tryz.underlying9) (OpensF.cons (k:=1) rfl (by kernel_rfl) (Opens.int Tryz.underlying3) (OpensF.cons (k:=1) rfl (by kernel_rfl) (Opens.int Tryz.underlying3) OpensF.nil))))
theorem el_opens:Opens enc Tryz.prog w 28 (fun s:Sl ElA=>[s.val]) (Sl.Ok w elD 2 32 (elOk w)) :=
 Opens.slice Tryz.underlying28 (by kernel_rfl) (by kernel_rfl) (by omega) (fun _=>rfl)
  (Opens.struct Tryz.underlying100 (by kernel_rfl) (OpensF.cons (k:=1) rfl (by kernel_rfl) (Opens.int Tryz.underlying35) (OpensF.cons (k:=1) rfl (by kernel_rfl) (Opens.slice (size:=1) (bytes:=8) Tryz.underlying98 (by kernel_rfl) (by kernel_rfl) (by omega) (fun _=>rfl) (Opens.int Tryz.underlying3)) OpensF.nil)))
theorem dt_opens:Opens enc Tryz.prog w 29 (fun s:Sl DtA=>[s.val]) (Sl.Ok w dtD 3 40 (dtOk w)) :=
 Opens.slice Tryz.underlying29 (by kernel_rfl) (by kernel_rfl) (by omega) (fun _=>rfl)
  (Opens.struct Tryz.underlying102 (by kernel_rfl) (OpensF.cons (k:=1) rfl (by kernel_rfl) (Opens.int Tryz.underlying3) (OpensF.cons (k:=1) rfl (by kernel_rfl) (Opens.int Tryz.underlying35) (OpensF.cons (k:=1) (dec:=fun s:Sl Int=>[s.val]) (ok:=Sl.Ok w byD 1 1 byOk) rfl (by kernel_rfl) (by exact by_opens) OpensF.nil))))
theorem mo_opens:Opens enc Tryz.prog w 31 moD (moOk w) :=
 Opens.struct Tryz.underlying31 (by kernel_rfl) (OpensF.cons (k:=1) (dec:=fun s:Sl SgA=>[s.val]) (ok:=Sl.Ok w sgD 2 48 (sgOk w)) rfl (by kernel_rfl) (by exact sg_opens) (OpensF.cons (k:=1) (dec:=fun s:Sl ImA=>[s.val]) (ok:=Sl.Ok w imD 3 40 imOk) rfl (by kernel_rfl) (by exact im_opens) (OpensF.cons (k:=1) (dec:=fun s:Sl FnA=>[s.val]) (ok:=Sl.Ok w fnD 3 56 (fnOk w)) rfl (by kernel_rfl) (by exact fn_opens) (OpensF.cons (k:=1) rfl (by kernel_rfl) (Opens.int Tryz.underlying3)
  (OpensF.cons (k:=1) (dec:=fun s:Sl LmA=>[s.val]) (ok:=Sl.Ok w lmD 3 24 lmOk) rfl (by kernel_rfl) (by exact lm_opens) (OpensF.cons (k:=1) (dec:=fun s:Sl GlA=>[s.val]) (ok:=Sl.Ok w glD 3 16 glOk) rfl (by kernel_rfl) (by exact gl_opens) (OpensF.cons (k:=1) (dec:=fun s:Sl ExA=>[s.val]) (ok:=Sl.Ok w exD 3 32 exOk) rfl (by kernel_rfl) (by exact ex_opens) (OpensF.cons (k:=1) rfl (by kernel_rfl) (Opens.int Tryz.underlying3) (OpensF.cons (k:=1) (dec:=fun s:Sl ElA=>[s.val]) (ok:=Sl.Ok w elD 2 32 (elOk w)) rfl (by kernel_rfl) (by exact el_opens) (OpensF.cons (k:=1) (dec:=fun s:Sl DtA=>[s.val]) (ok:=Sl.Ok w dtD 3 40 (dtOk w)) rfl (by kernel_rfl) (by exact dt_opens) OpensF.nil))))))))))
end
theorem wfU64 {n:Int} (h:(Lit.int .u64 n).wf=true):0≤n∧n≤18446744073709551615:=by
 simpa [Lit.wf,IntKind.min,IntKind.max,IntKind.signed,IntKind.bits]using h
theorem wfU8 {n:Int} (h:(Lit.int .u8 n).wf=true):0≤n∧n≤255:=by
 simpa [Lit.wf,IntKind.min,IntKind.max,IntKind.signed,IntKind.bits]using h
theorem wfI64 {n:Int} (h:(Lit.int .i64 n).wf=true):I64 n:=by
 unfold I64
 simpa [Lit.wf,IntKind.min,IntKind.max,IntKind.signed,IntKind.bits]using h
def b8 (n:Int):UInt8:=UInt8.ofNat n.toNat
theorem b8_val {n:Int} (h:(Lit.int .u8 n).wf=true):((b8 n).toNat:Int)=n:=by
 have:=wfU8 h
 unfold b8
 rw[UInt8.toNat_ofNat']
 omega
def slB (s:Sl Int):Sl UInt8:=⟨s.at_,s.cap,s.l.map b8⟩
def slU (s:Sl Int):Sl Nat:=⟨s.at_,s.cap,s.l.map Int.toNat⟩
def sgL (x:SgA):SgL:=⟨slB x.1,slB x.2.1⟩
def imL (x:ImA):MIm:=⟨x.1.data.toList,x.2.1.data.toList,x.2.2.1⟩
def xiL (x:RIA):XL:=⟨x.1,x.2.1.toNat,x.2.2.1.toNat,x.2.2.2.1,slU x.2.2.2.2.1⟩
def bdL (x:BdA):BdL:=⟨slB x.1,⟨x.2.1.at_,x.2.1.cap,x.2.1.l.map xiL⟩⟩
def fnL (x:FnA):FuL:=⟨x.1,bdL x.2.1⟩
def lmL (x:LmA):MLm:=⟨x.1,x.2.1,x.2.2.1⟩
def glL (x:GlA):MGl:=⟨b8 x.1,x.2.1,x.2.2.1.toNat⟩
def exL (x:ExA):MEx:=⟨x.1.data.toList,x.2.1,x.2.2.1⟩
def elL (x:ElA):ElL:=⟨x.1.toNat,x.2.1⟩
def dtL (x:DtA):DaL:=⟨x.1,x.2.1.toNat,slB x.2.2.1⟩
def slM {α β:Type} (f:α→β) (s:Sl α):Sl β:=⟨s.at_,s.cap,s.l.map f⟩
def moL (x:MoA):MoL:=⟨slM sgL x.1,slM imL x.2.1,slM fnL x.2.2.1,x.2.2.2.1,slM lmL x.2.2.2.2.1,slM glL x.2.2.2.2.2.1,slM exL x.2.2.2.2.2.2.1,x.2.2.2.2.2.2.2.1,slM elL x.2.2.2.2.2.2.2.2.1,slM dtL x.2.2.2.2.2.2.2.2.2.1⟩
theorem slM_val {α β:Type} (f:α→β) (s:Sl α):(slM f s).val=s.val:=by simp[Sl.val,slM]
theorem slB_val (s:Sl Int):(slB s).val=s.val:=by simp[Sl.val,slB]
theorem slU_val (s:Sl Int):(slU s).val=s.val:=by simp[Sl.val,slU]
theorem moL_cs (x:MoA):(moL x).cs=moD x:=by
 unfold MoL.cs moL moD
 simp only[slM_val]
 rfl
theorem flat_map {α β:Type} {dec:α→List Value} {dec2:β→List Value} {ok:α→Prop} (f:α→β) (hd:∀a,ok a→dec2 (f a)=dec a):∀(l:List α),(∀a∈l,ok a)→(l.map f).flatMap dec2=l.flatMap dec
 | [],_=>rfl
 | a::r,h=>by
  rw[List.map_cons,List.flatMap_cons,List.flatMap_cons,hd a (h a (by simp)),flat_map f hd r (fun b hb=>h b (by simp[hb]))]
theorem row_map {α β:Type} {w:World} {size bytes:Nat} {dec:α→List Value} {dec2:β→List Value} {ok:α→Prop} {s:Sl α} (f:α→β) (h:s.Ok w dec size bytes ok) (hd:∀a,ok a→dec2 (f a)=dec a):Row w size dec2 (slM f s):=by
 refine⟨?_,by simpa [slM]using h.len,h.cap⟩
 have:=h.reads
 show Reads w w.heap.size size s.at_ (s.l.map f).length ((s.l.map f).flatMap dec2)
 rw[List.length_map,flat_map f hd s.l h.all]
 exact this
theorem by_row {w:World} {s:Sl Int} (h:s.Ok w byD 1 1 byOk):Row w 1 bD (slB s) :=
 row_map b8 h fun a ha=>by unfold bD byD B;rw[b8_val ha]
theorem u_row {w:World} {s:Sl Int} (h:s.Ok w wdD 1 8 wdOk):Row w 1 uD (slU s) :=
 row_map Int.toNat h fun a ha=>by have:=wfU64 ha;unfold uD wdD U;rw[show ((a.toNat:Nat):Int)=a from by omega]
theorem i_row {w:World} {s:Sl Int} (h:s.Ok w nmD 1 8 nmOk):Row w 1 iD s:=⟨h.reads,h.len,h.cap⟩
theorem map_mem {α β:Type} {f:α→β} {s:Sl α} {y:β} (h:y∈(slM f s).l):∃x∈s.l,f x=y:=List.mem_map.1 h
theorem xi_in {w:World} {x:RIA} (h:riaOk w x):(xiL x).x.In∧XL.cs (xiL x)=riaD x∧Row w 1 uD (xiL x).l:=by
 obtain⟨h1,h2,h3,h4,h5,_⟩:=h
 have a:=wfI64 h1;have b:=wfU64 h2;have c:=wfU64 h3;have d:=wfI64 h4
 refine⟨⟨a.1,a.2,?_,?_,d.1,d.2,?_⟩,?_,u_row h5⟩
 ·show x.2.1.toNat<_;omega
 ·show x.2.2.1.toNat<_;omega
 ·intro n hn
  obtain⟨m,hm,rfl⟩:=List.mem_map.1 hn
  have:=wfU64 (h5.all m hm)
  omega
 ·show [Value.int .i64 x.1,.int .u64 ((x.2.1.toNat:Nat):Int),.int .u64 ((x.2.2.1.toNat:Nat):Int),.int .i64 x.2.2.2.1,(slU x.2.2.2.2.1).val]=_
  rw[slU_val,show ((x.2.1.toNat:Nat):Int)=x.2.1 from by omega,show ((x.2.2.1.toNat:Nat):Int)=x.2.2.1 from by omega]
  rfl
theorem bd_in {w:World} {x:BdA} (h:bdOk w x):BdIn w (bdL x):=by
 obtain⟨h1,h2,_⟩:=h
 refine⟨by_row h1,row_map xiL h2 fun a ha=>(xi_in ha).2.1,fun y hy=>?_,fun y hy=>?_⟩
 ·obtain⟨z,hz,rfl⟩:=List.mem_map.1 hy
  exact(xi_in (h2.all z hz)).2.2
 ·obtain⟨z,hz,rfl⟩:=List.mem_map.1 hy
  exact(xi_in (h2.all z hz)).1
theorem str_back (s:ByteArray):(⟨s.data.toList.toArray⟩:ByteArray)=s:=by simp
theorem mo_in {w:World} {x:MoA} (h:moOk w x):MoIn w (moL x):=by
 obtain⟨h1,h2,h3,h4,h5,h6,h7,h8,h9,h10,_⟩:=h
 refine⟨row_map sgL h1 fun a _=>?_,fun y hy=>?_,row_map imL h2 fun a _=>?_,fun y hy=>?_,row_map fnL h3 fun a _=>?_,fun y hy=>?_,wfI64 h4,row_map lmL h5 fun a _=>rfl,fun y hy=>?_,row_map glL h6 fun a ha=>?_,fun y hy=>?_,
  row_map exL h7 fun a _=>?_,fun y hy=>?_,wfI64 h8,row_map elL h9 fun a ha=>?_,fun y hy=>?_,row_map dtL h10 fun a ha=>?_,fun y hy=>?_⟩
 ·show [(slB a.1).val,(slB a.2.1).val]=_
  rw[slB_val,slB_val];rfl
 ·obtain⟨z,hz,rfl⟩:=map_mem hy
  exact⟨by_row (h1.all z hz).1,by_row (h1.all z hz).2.1⟩
 ·show [Value.string ⟨a.1.data.toList.toArray⟩,.string ⟨a.2.1.data.toList.toArray⟩,.int .i64 a.2.2.1]=_
  rw[str_back,str_back];rfl
 ·obtain⟨z,hz,rfl⟩:=map_mem hy
  obtain⟨k1,k2,k3,_⟩:=h2.all z hz
  refine⟨wfI64 k3,?_,?_⟩
  ·show z.1.data.toList.length≤_
   have:z.1.data.toList.length=z.1.size:=by simp
   omega
  ·show z.2.1.data.toList.length≤_
   have:z.2.1.data.toList.length=z.2.1.size:=by simp
   omega
 ·show [Value.int .i64 a.1,(slB a.2.1.1).val,(slM xiL a.2.1.2.1).val]=_
  rw[slB_val,slM_val];rfl
 ·obtain⟨z,hz,rfl⟩:=map_mem hy
  exact⟨wfI64 (h3.all z hz).1,bd_in (h3.all z hz).2.1⟩
 ·obtain⟨z,hz,rfl⟩:=map_mem hy
  exact⟨wfI64 (h5.all z hz).1,wfI64 (h5.all z hz).2.1⟩
 ·obtain⟨k1,_,k2,_⟩:=ha
  have:=wfU64 k2
  show [Value.int .u8 ((b8 a.1).toNat:Int),.bool a.2.1,.int .u64 ((a.2.2.1.toNat:Nat):Int)]=_
  rw[b8_val k1,show ((a.2.2.1.toNat:Nat):Int)=a.2.2.1 from by omega];rfl
 ·obtain⟨z,hz,rfl⟩:=map_mem hy
  have:=wfU64 (h6.all z hz).2.2.1
  show z.2.2.1.toNat<_
  omega
 ·show [Value.string ⟨a.1.data.toList.toArray⟩,.int .i64 a.2.1,.int .i64 a.2.2.1]=_
  rw[str_back];rfl
 ·obtain⟨z,hz,rfl⟩:=map_mem hy
  obtain⟨k1,k2,k3,_⟩:=h7.all z hz
  refine⟨wfI64 k2,wfI64 k3,?_⟩
  show z.1.data.toList.length≤_
  have:z.1.data.toList.length=z.1.size:=by simp
  omega
 ·have:=wfU64 ha.1
  show [Value.int .u64 ((a.1.toNat:Nat):Int),a.2.1.val]=_
  rw[show ((a.1.toNat:Nat):Int)=a.1 from by omega];rfl
 ·obtain⟨z,hz,rfl⟩:=map_mem hy
  obtain⟨k1,k2,_⟩:=h9.all z hz
  have:=wfU64 k1
  exact⟨by show z.1.toNat<_;omega,i_row k2,fun n hn=>wfI64 (k2.all n hn)⟩
 ·have:=wfU64 ha.2.1
  show [Value.int .i64 a.1,.int .u64 ((a.2.1.toNat:Nat):Int),(slB a.2.2.1).val]=_
  rw[slB_val,show ((a.2.1.toNat:Nat):Int)=a.2.1 from by omega];rfl
 ·obtain⟨z,hz,rfl⟩:=map_mem hy
  obtain⟨k1,k2,k3,_⟩:=h10.all z hz
  have:=wfU64 k2
  exact⟨wfI64 k1,by show z.2.1.toNat<_;omega,by_row k3⟩
structure BdLen (mr mp ml:Nat) (y:BdL):Prop where
 loc:y.loc.l.length≤mp
 l:y.l.l.length≤mr
 lab:∀x∈y.l.l,x.l.l.length≤ml
structure MoRe (m:MoL):Prop where
 sigs:m.sigs.l.length≤140737488351232
 sig:∀x∈m.sigs.l,x.p.l.length≤140737488351232∧x.r.l.length≤140737488351232
 imps:m.imps.l.length≤140737488351232
 imp:∀x∈m.imps.l,x.m.length≤140737488351232∧x.n.length≤140737488351232
 funcs:m.funcs.l.length≤140737488351232
 func:∀x∈m.funcs.l,BdLen 140737488351232 140737488351232 140737488351232 x.bd
 mems:m.mems.l.length≤140737488351232
 gls:m.gls.l.length≤140737488351232
 exs:m.exs.l.length≤140737488351232
 ex:∀x∈m.exs.l,x.name.length≤140737488351232
 els:m.els.l.length≤140737488351232
 el:∀x∈m.els.l,x.fs.l.length≤140737488351232
 das:m.das.l.length≤140737488351232
 da:∀x∈m.das.l,x.bs.l.length≤140737488351232
theorem ok_len {α:Type} {w:World} {size bytes:Nat} {dec:α→List Value} {ok:α→Prop} {s:Sl α} (h:s.Ok w dec size bytes ok) (hb:0<bytes):s.l.length≤140737488351232 :=
 Nat.le_trans (Nat.le_mul_of_pos_right _ hb) h.reach
theorem slM_len {α β:Type} {f:α→β} {s:Sl α}:(slM f s).l.length=s.l.length:=by simp[slM]
theorem slB_len {s:Sl Int}:(slB s).l.length=s.l.length:=by simp[slB]
theorem slU_len {s:Sl Int}:(slU s).l.length=s.l.length:=by simp[slU]
theorem mo_re {w:World} {x:MoA} (h:moOk w x):MoRe (moL x):=by
 obtain⟨h1,h2,h3,h4,h5,h6,h7,h8,h9,h10,_⟩:=h
 have hl:∀{α β:Type} {size bytes:Nat} {dec:α→List Value} {ok:α→Prop} {s:Sl α} (f:α→β),s.Ok w dec size bytes ok→0<bytes→(slM f s).l.length≤140737488351232:=fun f h hb=>by rw[slM_len];exact ok_len h hb
 refine⟨hl _ h1 (by omega),fun y hy=>?_,hl _ h2 (by omega),fun y hy=>?_,hl _ h3 (by omega),fun y hy=>?_,hl _ h5 (by omega),hl _ h6 (by omega),hl _ h7 (by omega),fun y hy=>?_,hl _ h9 (by omega),fun y hy=>?_,hl _ h10 (by omega),fun y hy=>?_⟩
 ·obtain⟨z,hz,rfl⟩:=map_mem hy
  obtain⟨k1,k2,_⟩:=h1.all z hz
  exact⟨by show (slB z.1).l.length≤_;rw[slB_len];exact ok_len k1 (by omega),by show (slB z.2.1).l.length≤_;rw[slB_len];exact ok_len k2 (by omega)⟩
 ·obtain⟨z,hz,rfl⟩:=map_mem hy
  obtain⟨k1,k2,_,_⟩:=h2.all z hz
  exact⟨by show z.1.data.toList.length≤_;simpa using k1,by show z.2.1.data.toList.length≤_;simpa using k2⟩
 ·obtain⟨z,hz,rfl⟩:=map_mem hy
  obtain⟨_,⟨k1,k2,_⟩,_⟩:=h3.all z hz
  refine⟨by show (slB z.2.1.1).l.length≤_;rw[slB_len];exact ok_len k1 (by omega),by show (slM xiL z.2.1.2.1).l.length≤_;rw[slM_len];exact ok_len k2 (by omega),fun y hy=>?_⟩
  obtain⟨u,hu,rfl⟩:=List.mem_map.1 hy
  show (slU u.2.2.2.2.1).l.length≤_
  rw[slU_len]
  exact ok_len (k2.all u hu).2.2.2.2.1 (by omega)
 ·obtain⟨z,hz,rfl⟩:=map_mem hy
  obtain⟨k1,_,_,_⟩:=h7.all z hz
  show z.1.data.toList.length≤_
  simpa using k1
 ·obtain⟨z,hz,rfl⟩:=map_mem hy
  exact ok_len (h9.all z hz).2.1 (by omega)
 ·obtain⟨z,hz,rfl⟩:=map_mem hy
  show (slB z.2.2.1).l.length≤_
  rw[slB_len]
  exact ok_len (h10.all z hz).2.2.1 (by omega)
structure MoSm (m:MoL):Prop where
 sigs:m.sigs.l.length≤60
 sig:∀x∈m.sigs.l,x.p.l.length+x.r.l.length≤60
 imps:m.imps.l.length≤25
 imp:∀x∈m.imps.l,x.m.length+x.n.length≤100
 funcs:m.funcs.l.length≤110
 func:∀x∈m.funcs.l,BdLen 151 61 110 x.bd
 mems:m.mems.l.length≤8
 gls:m.gls.l.length≤60
 exs:m.exs.l.length≤60
 ex:∀x∈m.exs.l,x.name.length≤60
 els:m.els.l.length≤25
 el:∀x∈m.els.l,x.fs.l.length≤30
 das:m.das.l.length≤25
 da:∀x∈m.das.l,x.bs.l.length≤4100
structure MoSt (m:MoL):Prop where
 sm:MoSm m
 func:∀x∈m.funcs.l,BdLen 150 60 110 x.bd
theorem BdLen.more {a b c a2 b2 c2:Nat} {y:BdL} (h:BdLen a b c y) (h1:a≤a2) (h2:b≤b2) (h3:c≤c2):BdLen a2 b2 c2 y:=⟨Nat.le_trans h.loc h2,Nat.le_trans h.l h1,fun x hx=>Nat.le_trans (h.lab x hx) h3⟩
end Go.Proofs.YtmekgpdfiimofaaGreatDoor
