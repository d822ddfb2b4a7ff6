import Derived.Test.YtmekgpdfiimofaaGreatDoorRows
import Derived.RowKit
import Derived.Test.YtmekgpdfiimofaaGreatDoorVAH
import Derived.Test.YtmekgpdfiimofaaGreatDoorVAM
import Derived.Test.YtmekgpdfiimofaaGreatDoorVAL
import Derived.Test.YtmekgpdfiimofaaGreatDoorVAD
set_option linter.unusedVariables false
namespace Go.Proofs.YtmekgpdfiimofaaGreatDoor
open Go.RowKit
def byD (n:Int):List Value:=[.int .u8 n]
def byOk (n:Int):Prop:=(Lit.int .u8 n).wf=true
abbrev RIA:=Int×Int×Int×Int×Sl Int×Unit
def wdD (n:Int):List Value:=[.int .u64 n]
def wdOk (n:Int):Prop:=(Lit.int .u64 n).wf=true
def nmD (n:Int):List Value:=[.int .i64 n]
def nmOk (n:Int):Prop:=(Lit.int .i64 n).wf=true
def riaD (x:RIA):List Value:=[.int .i64 x.1]++([.int .u64 x.2.1]++([.int .u64 x.2.2.1]++([.int .i64 x.2.2.2.1]++([x.2.2.2.2.1.val]++[]))))
def riaOk (w:World) (x:RIA):Prop:=(Lit.int .i64 x.1).wf=true∧(Lit.int .u64 x.2.1).wf=true∧(Lit.int .u64 x.2.2.1).wf=true∧(Lit.int .i64 x.2.2.2.1).wf=true∧x.2.2.2.2.1.Ok w wdD 1 8 wdOk∧True
abbrev SgA:=Sl Int×Sl Int×Unit
def sgD (x:SgA):List Value:=[x.1.val]++([x.2.1.val]++[])
def sgOk (w:World) (x:SgA):Prop:=x.1.Ok w byD 1 1 byOk∧x.2.1.Ok w byD 1 1 byOk∧True
abbrev ImA:=ByteArray×ByteArray×Int×Unit
def imD (x:ImA):List Value:=[.string x.1]++([.string x.2.1]++([.int .i64 x.2.2.1]++[]))
def imOk (x:ImA):Prop:=x.1.size≤140737488351232∧x.2.1.size≤140737488351232∧(Lit.int .i64 x.2.2.1).wf=true∧True
abbrev BdA:=Sl Int×Sl RIA×Unit
def bdD (x:BdA):List Value:=[x.1.val]++([x.2.1.val]++[])
def bdOk (w:World) (x:BdA):Prop:=x.1.Ok w byD 1 1 byOk∧x.2.1.Ok w riaD 5 56 (riaOk w)∧True
abbrev FnA:=Int×BdA×Unit
def fnD (x:FnA):List Value:=[.int .i64 x.1]++(bdD x.2.1++[])
def fnOk (w:World) (x:FnA):Prop:=(Lit.int .i64 x.1).wf=true∧bdOk w x.2.1∧True
abbrev LmA:=Int×Int×Bool×Unit
def lmD (x:LmA):List Value:=[.int .i64 x.1]++([.int .i64 x.2.1]++([.bool x.2.2.1]++[]))
def lmOk (x:LmA):Prop:=(Lit.int .i64 x.1).wf=true∧(Lit.int .i64 x.2.1).wf=true∧True∧True
abbrev GlA:=Int×Bool×Int×Unit
def glD (x:GlA):List Value:=[.int .u8 x.1]++([.bool x.2.1]++([.int .u64 x.2.2.1]++[]))
def glOk (x:GlA):Prop:=(Lit.int .u8 x.1).wf=true∧True∧(Lit.int .u64 x.2.2.1).wf=true∧True
abbrev ExA:=ByteArray×Int×Int×Unit
def exD (x:ExA):List Value:=[.string x.1]++([.int .i64 x.2.1]++([.int .i64 x.2.2.1]++[]))
def exOk (x:ExA):Prop:=x.1.size≤140737488351232∧(Lit.int .i64 x.2.1).wf=true∧(Lit.int .i64 x.2.2.1).wf=true∧True
abbrev ElA:=Int×Sl Int×Unit
def elD (x:ElA):List Value:=[.int .u64 x.1]++([x.2.1.val]++[])
def elOk (w:World) (x:ElA):Prop:=(Lit.int .u64 x.1).wf=true∧x.2.1.Ok w nmD 1 8 nmOk∧True
abbrev DtA:=Int×Int×Sl Int×Unit
def dtD (x:DtA):List Value:=[.int .i64 x.1]++([.int .u64 x.2.1]++([x.2.2.1.val]++[]))
def dtOk (w:World) (x:DtA):Prop:=(Lit.int .i64 x.1).wf=true∧(Lit.int .u64 x.2.1).wf=true∧x.2.2.1.Ok w byD 1 1 byOk∧True
abbrev MoA:=Sl SgA×Sl ImA×Sl FnA×Int×Sl LmA×Sl GlA×Sl ExA×Int×Sl ElA×Sl DtA×Unit
def moD (x:MoA):List Value:=[x.1.val]++([x.2.1.val]++([x.2.2.1.val]++([.int .i64 x.2.2.2.1]++([x.2.2.2.2.1.val]++([x.2.2.2.2.2.1.val]++([x.2.2.2.2.2.2.1.val]++([.int .i64 x.2.2.2.2.2.2.2.1]++([x.2.2.2.2.2.2.2.2.1.val]++([x.2.2.2.2.2.2.2.2.2.1.val]++[])))))))))
def moOk (w:World) (x:MoA):Prop:=x.1.Ok w sgD 2 48 (sgOk w)∧x.2.1.Ok w imD 3 40 imOk∧x.2.2.1.Ok w fnD 3 56 (fnOk w)∧(Lit.int .i64 x.2.2.2.1).wf=true∧x.2.2.2.2.1.Ok w lmD 3 24 lmOk∧x.2.2.2.2.2.1.Ok w glD 3 16 glOk∧x.2.2.2.2.2.2.1.Ok w exD 3 32 exOk∧(Lit.int .i64 x.2.2.2.2.2.2.2.1).wf=true∧x.2.2.2.2.2.2.2.2.1.Ok w elD 2 32 (elOk w)∧x.2.2.2.2.2.2.2.2.2.1.Ok w dtD 3 40 (dtOk w)∧True
section
variable {H:Type} {enc:TypeId×Value→H} {w:World}
set_option maxRecDepth 100000
theorem strR_opens {P:Program} {e:TypeId} (he:P.underlying e=some .string):Opens enc P w e (fun s:ByteArray=>[.string s]) (fun s=>s.size≤140737488351232):=by
 intro spare held m cs y h hw
 obtain⟨s,rfl,hy,hs⟩:=DataW.trod_string he h
 refine⟨s,rfl,?_⟩
 have:=hw s.size (by rw[hy];simp[DataW.weights])
 simpa [reachBytes]using this
theorem by_opens:Opens enc Tryz.prog w 40 (fun s:Sl Int=>[s.val]) (Sl.Ok w byD 1 1 byOk) :=
 Opens.slice Tryz.underlying40 (by kernel_rfl) (by kernel_rfl) (by omega) (fun _=>rfl) (Opens.int Tryz.underlying5)
theorem sg_opens:Opens enc Tryz.prog w 22 (fun s:Sl SgA=>[s.val]) (Sl.Ok w sgD 2 48 (sgOk w)) :=
 Opens.slice Tryz.underlying22 (by kernel_rfl) (by kernel_rfl) (by omega) (fun _=>rfl)
  (Opens.struct Tryz.underlying72 (by kernel_rfl) (OpensF.cons (k:=1) (dec:=fun s:Sl Int=>[s.val]) (ok:=Sl.Ok w byD 1 1 byOk) rfl (by kernel_rfl) (by exact by_opens) (OpensF.cons (k:=1) (dec:=fun s:Sl Int=>[s.val]) (ok:=Sl.Ok w byD 1 1 byOk) rfl (by kernel_rfl) (by exact by_opens) OpensF.nil)))
theorem im_opens:Opens enc Tryz.prog w 23 (fun s:Sl ImA=>[s.val]) (Sl.Ok w imD 3 40 imOk) :=
 Opens.slice Tryz.underlying23 (by kernel_rfl) (by kernel_rfl) (by omega) (fun _=>rfl)
  (Opens.struct Tryz.underlying90 (by kernel_rfl) (OpensF.cons (k:=1) rfl (by kernel_rfl) (strR_opens Tryz.underlying9) (OpensF.cons (k:=1) rfl (by kernel_rfl) (strR_opens Tryz.underlying9) (OpensF.cons (k:=1) rfl (by kernel_rfl) (Opens.int Tryz.underlying3) OpensF.nil))))
theorem ria_opens:Opens enc Tryz.prog w 39 (fun s:Sl RIA=>[s.val]) (Sl.Ok w riaD 5 56 (riaOk w)) :=
 Opens.slice Tryz.underlying39 (by kernel_rfl) (by kernel_rfl) (by omega) (fun _=>rfl)
  (Opens.struct Tryz.underlying38 (by kernel_rfl) (OpensF.cons (k:=1) rfl (by kernel_rfl) (Opens.int Tryz.underlying3) (OpensF.cons (k:=1) rfl (by kernel_rfl) (Opens.int Tryz.underlying35) (OpensF.cons (k:=1) rfl (by kernel_rfl) (Opens.int Tryz.underlying35)
   (OpensF.cons (k:=1) rfl (by kernel_rfl) (Opens.int Tryz.underlying3) (OpensF.cons (k:=1) rfl (by kernel_rfl) (Opens.slice (size:=1) (bytes:=8) Tryz.underlying36 (by kernel_rfl) (by kernel_rfl) (by omega) (fun _=>rfl) (Opens.int Tryz.underlying35)) OpensF.nil))))))
theorem bd_opens:Opens enc Tryz.prog w 42 bdD (bdOk w) :=
 Opens.struct Tryz.underlying42 (by kernel_rfl) (OpensF.cons (k:=1) (dec:=fun s:Sl Int=>[s.val]) (ok:=Sl.Ok w byD 1 1 byOk) rfl (by kernel_rfl) (by exact by_opens) (OpensF.cons (k:=1) (dec:=fun s:Sl RIA=>[s.val]) (ok:=Sl.Ok w riaD 5 56 (riaOk w)) rfl (by kernel_rfl) (by exact ria_opens) OpensF.nil))
theorem fn_opens:Opens enc Tryz.prog w 24 (fun s:Sl FnA=>[s.val]) (Sl.Ok w fnD 3 56 (fnOk w)) :=
 Opens.slice Tryz.underlying24 (by kernel_rfl) (by kernel_rfl) (by omega) (fun _=>rfl)
  (Opens.struct Tryz.underlying44 (by kernel_rfl) (OpensF.cons (k:=1) rfl (by kernel_rfl) (Opens.int Tryz.underlying3) (OpensF.cons (k:=2) (dec:=bdD) (ok:=bdOk w) rfl (by kernel_rfl) (by exact bd_opens) OpensF.nil)))
theorem lm_opens:Opens enc Tryz.prog w 25 (fun s:Sl LmA=>[s.val]) (Sl.Ok w lmD 3 24 lmOk) :=
 Opens.slice Tryz.underlying25 (by kernel_rfl) (by kernel_rfl) (by omega) (fun _=>rfl)
  (Opens.struct Tryz.underlying68 (by kernel_rfl) (OpensF.cons (k:=1) rfl (by kernel_rfl) (Opens.int Tryz.underlying3) (OpensF.cons (k:=1) rfl (by kernel_rfl) (Opens.int Tryz.underlying3) (OpensF.cons (k:=1) rfl (by kernel_rfl) (Opens.bool Tryz.underlying4) OpensF.nil))))
theorem gl_opens:Opens enc Tryz.prog w 26 (fun s:Sl GlA=>[s.val]) (Sl.Ok w glD 3 16 glOk) :=
 Opens.slice Tryz.underlying26 (by kernel_rfl) (by kernel_rfl) (by omega) (fun _=>rfl)
  (Opens.struct Tryz.underlying94 (by kernel_rfl) (OpensF.cons (k:=1) rfl (by kernel_rfl) (Opens.int Tryz.underlying92) (OpensF.cons (k:=1) rfl (by kernel_rfl) (Opens.bool Tryz.underlying4) (OpensF.cons (k:=1) rfl (by kernel_rfl) (Opens.int Tryz.underlying35) OpensF.nil))))
theorem ex_opens:Opens enc Tryz.prog w 27 (fun s:Sl ExA=>[s.val]) (Sl.Ok w exD 3 32 exOk) :=
 Opens.slice Tryz.underlying27 (by kernel_rfl) (by kernel_rfl) (by omega) (fun _=>rfl)
  (Opens.struct Tryz.underlying96 (by kernel_rfl) (OpensF.cons (k:=1) rfl (by kernel_rfl) (strR_opens Tryz.underlying9) (OpensF.cons (k:=1) rfl (by kernel_rfl) (Opens.int Tryz.underlying3) (OpensF.cons (k:=1) rfl (by kernel_rfl) (Opens.int Tryz.underlying3) OpensF.nil))))
theorem el_opens:Opens enc Tryz.prog w 28 (fun s:Sl ElA=>[s.val]) (Sl.Ok w elD 2 32 (elOk w)) :=
 Opens.slice Tryz.underlying28 (by kernel_rfl) (by kernel_rfl) (by omega) (fun _=>rfl)
  (Opens.struct Tryz.underlying100 (by kernel_rfl) (OpensF.cons (k:=1) rfl (by kernel_rfl) (Opens.int Tryz.underlying35) (OpensF.cons (k:=1) rfl (by kernel_rfl) (Opens.slice (size:=1) (bytes:=8) Tryz.underlying98 (by kernel_rfl) (by kernel_rfl) (by omega) (fun _=>rfl) (Opens.int Tryz.underlying3)) OpensF.nil)))
theorem dt_opens:Opens enc Tryz.prog w 29 (fun s:Sl DtA=>[s.val]) (Sl.Ok w dtD 3 40 (dtOk w)) :=
 Opens.slice Tryz.underlying29 (by kernel_rfl) (by kernel_rfl) (by omega) (fun _=>rfl)
  (Opens.struct Tryz.underlying102 (by kernel_rfl) (OpensF.cons (k:=1) rfl (by kernel_rfl) (Opens.int Tryz.underlying3) (OpensF.cons (k:=1) rfl (by kernel_rfl) (Opens.int Tryz.underlying35) (OpensF.cons (k:=1) (dec:=fun s:Sl Int=>[s.val]) (ok:=Sl.Ok w byD 1 1 byOk) rfl (by kernel_rfl) (by exact by_opens) OpensF.nil))))
theorem mo_opens:Opens enc Tryz.prog w 31 moD (moOk w) :=
 Opens.struct Tryz.underlying31 (by kernel_rfl) (OpensF.cons (k:=1) (dec:=fun s:Sl SgA=>[s.val]) (ok:=Sl.Ok w sgD 2 48 (sgOk w)) rfl (by kernel_rfl) (by exact sg_opens) (OpensF.cons (k:=1) (dec:=fun s:Sl ImA=>[s.val]) (ok:=Sl.Ok w imD 3 40 imOk) rfl (by kernel_rfl) (by exact im_opens) (OpensF.cons (k:=1) (dec:=fun s:Sl FnA=>[s.val]) (ok:=Sl.Ok w fnD 3 56 (fnOk w)) rfl (by kernel_rfl) (by exact fn_opens) (OpensF.cons (k:=1) rfl (by kernel_rfl) (Opens.int Tryz.underlying3)
  (OpensF.cons (k:=1) (dec:=fun s:Sl LmA=>[s.val]) (ok:=Sl.Ok w lmD 3 24 lmOk) rfl (by kernel_rfl) (by exact lm_opens) (OpensF.cons (k:=1) (dec:=fun s:Sl GlA=>[s.val]) (ok:=Sl.Ok w glD 3 16 glOk) rfl (by kernel_rfl) (by exact gl_opens) (OpensF.cons (k:=1) (dec:=fun s:Sl ExA=>[s.val]) (ok:=Sl.Ok w exD 3 32 exOk) rfl (by kernel_rfl) (by exact ex_opens) (OpensF.cons (k:=1) rfl (by kernel_rfl) (Opens.int Tryz.underlying3) (OpensF.cons (k:=1) (dec:=fun s:Sl ElA=>[s.val]) (ok:=Sl.Ok w elD 2 32 (elOk w)) rfl (by kernel_rfl) (by exact el_opens) (OpensF.cons (k:=1) (dec:=fun s:Sl DtA=>[s.val]) (ok:=Sl.Ok w dtD 3 40 (dtOk w)) rfl (by kernel_rfl) (by exact dt_opens) OpensF.nil))))))))))
end
theorem wfU64 {n:Int} (h:(Lit.int .u64 n).wf=true):0≤n∧n≤18446744073709551615:=by
 simpa [Lit.wf,IntKind.min,IntKind.max,IntKind.signed,IntKind.bits]using h
theorem wfU8 {n:Int} (h:(Lit.int .u8 n).wf=true):0≤n∧n≤255:=by
 simpa [Lit.wf,IntKind.min,IntKind.max,IntKind.signed,IntKind.bits]using h
theorem wfI64 {n:Int} (h:(Lit.int .i64 n).wf=true):I64 n:=by
 unfold I64
 simpa [Lit.wf,IntKind.min,IntKind.max,IntKind.signed,IntKind.bits]using h
def b8 (n:Int):UInt8:=UInt8.ofNat n.toNat
theorem b8_val {n:Int} (h:(Lit.int .u8 n).wf=true):((b8 n).toNat:Int)=n:=by
 have:=wfU8 h
 unfold b8
 rw[UInt8.toNat_ofNat']
 omega
def slB (s:Sl Int):Sl UInt8:=⟨s.at_,s.cap,s.l.map b8⟩
def slU (s:Sl Int):Sl Nat:=⟨s.at_,s.cap,s.l.map Int.toNat⟩
def sgL (x:SgA):SgL:=⟨slB x.1,slB x.2.1⟩
def imL (x:ImA):MIm:=⟨x.1.data.toList,x.2.1.data.toList,x.2.2.1⟩
def xiL (x:RIA):XL:=⟨x.1,x.2.1.toNat,x.2.2.1.toNat,x.2.2.2.1,slU x.2.2.2.2.1⟩
def bdL (x:BdA):BdL:=⟨slB x.1,⟨x.2.1.at_,x.2.1.cap,x.2.1.l.map xiL⟩⟩
def fnL (x:FnA):FuL:=⟨x.1,bdL x.2.1⟩
def lmL (x:LmA):MLm:=⟨x.1,x.2.1,x.2.2.1⟩
def glL (x:GlA):MGl:=⟨b8 x.1,x.2.1,x.2.2.1.toNat⟩
def exL (x:ExA):MEx:=⟨x.1.data.toList,x.2.1,x.2.2.1⟩
def elL (x:ElA):ElL:=⟨x.1.toNat,x.2.1⟩
def dtL (x:DtA):DaL:=⟨x.1,x.2.1.toNat,slB x.2.2.1⟩
def slM {α β:Type} (f:α→β) (s:Sl α):Sl β:=⟨s.at_,s.cap,s.l.map f⟩
def moL (x:MoA):MoL:=⟨slM sgL x.1,slM imL x.2.1,slM fnL x.2.2.1,x.2.2.2.1,slM lmL x.2.2.2.2.1,slM glL x.2.2.2.2.2.1,slM exL x.2.2.2.2.2.2.1,x.2.2.2.2.2.2.2.1,slM elL x.2.2.2.2.2.2.2.2.1,slM dtL x.2.2.2.2.2.2.2.2.2.1⟩
theorem slM_val {α β:Type} (f:α→β) (s:Sl α):(slM f s).val=s.val:=by simp[Sl.val,slM]
theorem slB_val (s:Sl Int):(slB s).val=s.val:=by simp[Sl.val,slB]
theorem slU_val (s:Sl Int):(slU s).val=s.val:=by simp[Sl.val,slU]
theorem moL_cs (x:MoA):(moL x).cs=moD x:=by
 unfold MoL.cs moL moD
 simp only[slM_val]
 rfl
theorem flat_map {α β:Type} {dec:α→List Value} {dec2:β→List Value} {ok:α→Prop} (f:α→β) (hd:∀a,ok a→dec2 (f a)=dec a):∀(l:List α),(∀a∈l,ok a)→(l.map f).flatMap dec2=l.flatMap dec
 | [],_=>rfl
 | a::r,h=>by
  rw[List.map_cons,List.flatMap_cons,List.flatMap_cons,hd a (h a (by simp)),flat_map f hd r (fun b hb=>h b (by simp[hb]))]
theorem row_map {α β:Type} {w:World} {size bytes:Nat} {dec:α→List Value} {dec2:β→List Value} {ok:α→Prop} {s:Sl α} (f:α→β) (h:s.Ok w dec size bytes ok) (hd:∀a,ok a→dec2 (f a)=dec a):Row w size dec2 (slM f s):=by
 refine⟨?_,by simpa [slM]using h.len,h.cap⟩
 have:=h.reads
 show Reads w w.heap.size size s.at_ (s.l.map f).length ((s.l.map f).flatMap dec2)
 rw[List.length_map,flat_map f hd s.l h.all]
 exact this
theorem by_row {w:World} {s:Sl Int} (h:s.Ok w byD 1 1 byOk):Row w 1 bD (slB s) :=
 row_map b8 h fun a ha=>by unfold bD byD B;rw[b8_val ha]
theorem u_row {w:World} {s:Sl Int} (h:s.Ok w wdD 1 8 wdOk):Row w 1 uD (slU s) :=
 row_map Int.toNat h fun a ha=>by have:=wfU64 ha;unfold uD wdD U;rw[show ((a.toNat:Nat):Int)=a from by omega]
theorem i_row {w:World} {s:Sl Int} (h:s.Ok w nmD 1 8 nmOk):Row w 1 iD s:=⟨h.reads,h.len,h.cap⟩
theorem map_mem {α β:Type} {f:α→β} {s:Sl α} {y:β} (h:y∈(slM f s).l):∃x∈s.l,f x=y:=List.mem_map.1 h
theorem xi_in {w:World} {x:RIA} (h:riaOk w x):(xiL x).x.In∧XL.cs (xiL x)=riaD x∧Row w 1 uD (xiL x).l:=by
 obtain⟨h1,h2,h3,h4,h5,_⟩:=h
 have a:=wfI64 h1;have b:=wfU64 h2;have c:=wfU64 h3;have d:=wfI64 h4
 refine⟨⟨a.1,a.2,?_,?_,d.1,d.2,?_⟩,?_,u_row h5⟩
 ·show x.2.1.toNat<_;omega
 ·show x.2.2.1.toNat<_;omega
 ·intro n hn
  obtain⟨m,hm,rfl⟩:=List.mem_map.1 hn
  have:=wfU64 (h5.all m hm)
  omega
 ·show [Value.int .i64 x.1,.int .u64 ((x.2.1.toNat:Nat):Int),.int .u64 ((x.2.2.1.toNat:Nat):Int),.int .i64 x.2.2.2.1,(slU x.2.2.2.2.1).val]=_
  rw[slU_val,show ((x.2.1.toNat:Nat):Int)=x.2.1 from by omega,show ((x.2.2.1.toNat:Nat):Int)=x.2.2.1 from by omega]
  rfl
theorem bd_in {w:World} {x:BdA} (h:bdOk w x):BdIn w (bdL x):=by
 obtain⟨h1,h2,_⟩:=h
 refine⟨by_row h1,row_map xiL h2 fun a ha=>(xi_in ha).2.1,fun y hy=>?_,fun y hy=>?_⟩
 ·obtain⟨z,hz,rfl⟩:=List.mem_map.1 hy
  exact(xi_in (h2.all z hz)).2.2
 ·obtain⟨z,hz,rfl⟩:=List.mem_map.1 hy
  exact(xi_in (h2.all z hz)).1
theorem str_back (s:ByteArray):(⟨s.data.toList.toArray⟩:ByteArray)=s:=by simp
theorem mo_in {w:World} {x:MoA} (h:moOk w x):MoIn w (moL x):=by
 obtain⟨h1,h2,h3,h4,h5,h6,h7,h8,h9,h10,_⟩:=h
 refine⟨row_map sgL h1 fun a _=>?_,fun y hy=>?_,row_map imL h2 fun a _=>?_,fun y hy=>?_,row_map fnL h3 fun a _=>?_,fun y hy=>?_,wfI64 h4,row_map lmL h5 fun a _=>rfl,fun y hy=>?_,row_map glL h6 fun a ha=>?_,fun y hy=>?_,
  row_map exL h7 fun a _=>?_,fun y hy=>?_,wfI64 h8,row_map elL h9 fun a ha=>?_,fun y hy=>?_,row_map dtL h10 fun a ha=>?_,fun y hy=>?_⟩
 ·show [(slB a.1).val,(slB a.2.1).val]=_
  rw[slB_val,slB_val];rfl
 ·obtain⟨z,hz,rfl⟩:=map_mem hy
  exact⟨by_row (h1.all z hz).1,by_row (h1.all z hz).2.1⟩
 ·show [Value.string ⟨a.1.data.toList.toArray⟩,.string ⟨a.2.1.data.toList.toArray⟩,.int .i64 a.2.2.1]=_
  rw[str_back,str_back];rfl
 ·obtain⟨z,hz,rfl⟩:=map_mem hy
  obtain⟨k1,k2,k3,_⟩:=h2.all z hz
  refine⟨wfI64 k3,?_,?_⟩
  ·show z.1.data.toList.length≤_
   have:z.1.data.toList.length=z.1.size:=by simp
   omega
  ·show z.2.1.data.toList.length≤_
   have:z.2.1.data.toList.length=z.2.1.size:=by simp
   omega
 ·show [Value.int .i64 a.1,(slB a.2.1.1).val,(slM xiL a.2.1.2.1).val]=_
  rw[slB_val,slM_val];rfl
 ·obtain⟨z,hz,rfl⟩:=map_mem hy
  exact⟨wfI64 (h3.all z hz).1,bd_in (h3.all z hz).2.1⟩
 ·obtain⟨z,hz,rfl⟩:=map_mem hy
  exact⟨wfI64 (h5.all z hz).1,wfI64 (h5.all z hz).2.1⟩
 ·obtain⟨k1,_,k2,_⟩:=ha
  have:=wfU64 k2
  show [Value.int .u8 ((b8 a.1).toNat:Int),.bool a.2.1,.int .u64 ((a.2.2.1.toNat:Nat):Int)]=_
  rw[b8_val k1,show ((a.2.2.1.toNat:Nat):Int)=a.2.2.1 from by omega];rfl
 ·obtain⟨z,hz,rfl⟩:=map_mem hy
  have:=wfU64 (h6.all z hz).2.2.1
  show z.2.2.1.toNat<_
  omega
 ·show [Value.string ⟨a.1.data.toList.toArray⟩,.int .i64 a.2.1,.int .i64 a.2.2.1]=_
  rw[str_back];rfl
 ·obtain⟨z,hz,rfl⟩:=map_mem hy
  obtain⟨k1,k2,k3,_⟩:=h7.all z hz
  refine⟨wfI64 k2,wfI64 k3,?_⟩
  show z.1.data.toList.length≤_
  have:z.1.data.toList.length=z.1.size:=by simp
  omega
 ·have:=wfU64 ha.1
  show [Value.int .u64 ((a.1.toNat:Nat):Int),a.2.1.val]=_
  rw[show ((a.1.toNat:Nat):Int)=a.1 from by omega];rfl
 ·obtain⟨z,hz,rfl⟩:=map_mem hy
  obtain⟨k1,k2,_⟩:=h9.all z hz
  have:=wfU64 k1
  exact⟨by show z.1.toNat<_;omega,i_row k2,fun n hn=>wfI64 (k2.all n hn)⟩
 ·have:=wfU64 ha.2.1
  show [Value.int .i64 a.1,.int .u64 ((a.2.1.toNat:Nat):Int),(slB a.2.2.1).val]=_
  rw[slB_val,show ((a.2.1.toNat:Nat):Int)=a.2.1 from by omega];rfl
 ·obtain⟨z,hz,rfl⟩:=map_mem hy
  obtain⟨k1,k2,k3,_⟩:=h10.all z hz
  have:=wfU64 k2
  exact⟨wfI64 k1,by show z.2.1.toNat<_;omega,by_row k3⟩
structure BdLen (mr mp ml:Nat) (y:BdL):Prop where
 loc:y.loc.l.length≤mp
 l:y.l.l.length≤mr
 lab:∀x∈y.l.l,x.l.l.length≤ml
structure MoRe (m:MoL):Prop where
 sigs:m.sigs.l.length≤140737488351232
 sig:∀x∈m.sigs.l,x.p.l.length≤140737488351232∧x.r.l.length≤140737488351232
 imps:m.imps.l.length≤140737488351232
 imp:∀x∈m.imps.l,x.m.length≤140737488351232∧x.n.length≤140737488351232
 funcs:m.funcs.l.length≤140737488351232
 func:∀x∈m.funcs.l,BdLen 140737488351232 140737488351232 140737488351232 x.bd
 mems:m.mems.l.length≤140737488351232
 gls:m.gls.l.length≤140737488351232
 exs:m.exs.l.length≤140737488351232
 ex:∀x∈m.exs.l,x.name.length≤140737488351232
 els:m.els.l.length≤140737488351232
 el:∀x∈m.els.l,x.fs.l.length≤140737488351232
 das:m.das.l.length≤140737488351232
 da:∀x∈m.das.l,x.bs.l.length≤140737488351232
theorem ok_len {α:Type} {w:World} {size bytes:Nat} {dec:α→List Value} {ok:α→Prop} {s:Sl α} (h:s.Ok w dec size bytes ok) (hb:0<bytes):s.l.length≤140737488351232 :=
 Nat.le_trans (Nat.le_mul_of_pos_right _ hb) h.reach
theorem slM_len {α β:Type} {f:α→β} {s:Sl α}:(slM f s).l.length=s.l.length:=by simp[slM]
theorem slB_len {s:Sl Int}:(slB s).l.length=s.l.length:=by simp[slB]
theorem slU_len {s:Sl Int}:(slU s).l.length=s.l.length:=by simp[slU]
theorem mo_re {w:World} {x:MoA} (h:moOk w x):MoRe (moL x):=by
 obtain⟨h1,h2,h3,h4,h5,h6,h7,h8,h9,h10,_⟩:=h
 have hl:∀{α β:Type} {size bytes:Nat} {dec:α→List Value} {ok:α→Prop} {s:Sl α} (f:α→β),s.Ok w dec size bytes ok→0<bytes→(slM f s).l.length≤140737488351232:=fun f h hb=>by rw[slM_len];exact ok_len h hb
 refine⟨hl _ h1 (by omega),fun y hy=>?_,hl _ h2 (by omega),fun y hy=>?_,hl _ h3 (by omega),fun y hy=>?_,hl _ h5 (by omega),hl _ h6 (by omega),hl _ h7 (by omega),fun y hy=>?_,hl _ h9 (by omega),fun y hy=>?_,hl _ h10 (by omega),fun y hy=>?_⟩
 ·obtain⟨z,hz,rfl⟩:=map_mem hy
  obtain⟨k1,k2,_⟩:=h1.all z hz
  exact⟨by show (slB z.1).l.length≤_;rw[slB_len];exact ok_len k1 (by omega),by show (slB z.2.1).l.length≤_;rw[slB_len];exact ok_len k2 (by omega)⟩
 ·obtain⟨z,hz,rfl⟩:=map_mem hy
  obtain⟨k1,k2,_,_⟩:=h2.all z hz
  exact⟨by show z.1.data.toList.length≤_;simpa using k1,by show z.2.1.data.toList.length≤_;simpa using k2⟩
 ·obtain⟨z,hz,rfl⟩:=map_mem hy
  obtain⟨_,⟨k1,k2,_⟩,_⟩:=h3.all z hz
  refine⟨by show (slB z.2.1.1).l.length≤_;rw[slB_len];exact ok_len k1 (by omega),by show (slM xiL z.2.1.2.1).l.length≤_;rw[slM_len];exact ok_len k2 (by omega),fun y hy=>?_⟩
  obtain⟨u,hu,rfl⟩:=List.mem_map.1 hy
  show (slU u.2.2.2.2.1).l.length≤_
  rw[slU_len]
  exact ok_len (k2.all u hu).2.2.2.2.1 (by omega)
 ·obtain⟨z,hz,rfl⟩:=map_mem hy
  obtain⟨k1,_,_,_⟩:=h7.all z hz
  show z.1.data.toList.length≤_
  simpa using k1
 ·obtain⟨z,hz,rfl⟩:=map_mem hy
  exact ok_len (h9.all z hz).2.1 (by omega)
 ·obtain⟨z,hz,rfl⟩:=map_mem hy
  show (slB z.2.2.1).l.length≤_
  rw[slB_len]
  exact ok_len (h10.all z hz).2.2.1 (by omega)
structure MoSm (m:MoL):Prop where
 sigs:m.sigs.l.length≤60
 sig:∀x∈m.sigs.l,x.p.l.length+x.r.l.length≤60
 imps:m.imps.l.length≤25
 imp:∀x∈m.imps.l,x.m.length+x.n.length≤100
 funcs:m.funcs.l.length≤110
 func:∀x∈m.funcs.l,BdLen 151 61 110 x.bd
 mems:m.mems.l.length≤8
 gls:m.gls.l.length≤60
 exs:m.exs.l.length≤60
 ex:∀x∈m.exs.l,x.name.length≤60
 els:m.els.l.length≤25
 el:∀x∈m.els.l,x.fs.l.length≤30
 das:m.das.l.length≤25
 da:∀x∈m.das.l,x.bs.l.length≤4100
structure MoSt (m:MoL):Prop where
 sm:MoSm m
 func:∀x∈m.funcs.l,BdLen 150 60 110 x.bd
theorem BdLen.more {a b c a2 b2 c2:Nat} {y:BdL} (h:BdLen a b c y) (h1:a≤a2) (h2:b≤b2) (h3:c≤c2):BdLen a2 b2 c2 y:=⟨Nat.le_trans h.loc h2,Nat.le_trans h.l h1,fun x hx=>Nat.le_trans (h.lab x hx) h3⟩
abbrev RI:=Int×Int×Int×Int×Sl Int×Unit
def u64D (n:Int):List Value:=[.int .u64 n]
theorem u64D_one {l:List Int}:∀u∈l.flatMap u64D,u.oneCell'=true:=by
 intro u hu
 obtain⟨n,_,hn⟩:=List.mem_flatMap.1 hu
 simp[u64D]at hn
 subst hn
 rfl
theorem append_fresh {P:Program} {w:World} {t ty e:TypeId} {size bytes:Nat} (hE:IsElem P t e size bytes) (g base:Nat) (hg:base≤g) (hh:w.heap[g]?=some (.cells #[] e (0,0))) (Bk:Nat) (A:Option Addr) (m c:Nat) (news:List Value)
  (hr:Reads w Bk size A m news) (h1:∀u∈news,u.oneCell'=true) (hroom:Room 0 m bytes) (hbase:base≤w.heap.size) :
  ∃v' w',(Builtin.append_ #[t,t] ty #[.slice (some ⟨g,0,none⟩) 0 0,.slice A m c]).run P w=.ok v' w'∧w'.ownsRow base e size v' m news∧Below w.heap.size w w':=by
 obtain⟨ht,i,z,hi,hz,hsize,hby,hzs,hsz⟩:=hE
 rcases Nat.eq_zero_or_pos m with h0|h0
 ·subst h0
  have hn:news=[]:=List.eq_nil_of_length_eq_zero (by simpa using hr.1)
  subst hn
  have hown:w.ownsRow base e size (.slice (some ⟨g,0,none⟩) 0 0) 0 []:=⟨by simp,.inr ⟨g,0,#[],rfl,hg,hh,Nat.le_refl _,by unfold maxLen;omega,by simp,by simp⟩⟩
  refine⟨_,w,?_,hown,Below.refl _ _⟩
  cases A with
  | none=>exact run_append_of_nil base t ty e i size ht hi _ 0 [] hown c
  | some a=>simp[Builtin.append_,run_underlying ht,sizeOf,typeInfo,hi,Builtin.lenOf,Builtin.firstCells,storeCells,loadCells,loadCellsFrom]
 ·obtain⟨ad,rfl,_,hc⟩:=hr.2 h0
  obtain⟨v',w',hrun,h2,h3⟩:=run_append_arg_grows (P:=P) (w:=w) t ty e i z size bytes ht hi hz hsize hby hzs hsz ⟨g,0,none⟩ 0 0 [] (by simp) (by simp) ad m c news hr.1 hc (by omega) hroom.1 hroom.2
  refine⟨v',w',hrun,?_,(Below.refl _ _).grown h3 (Nat.le_refl _) (fun q hq=>by cases hq)⟩
  rw[Nat.zero_add,List.nil_append]at h2
  exact own_base h2 (fun q hq=>by have:=own_ge h2 q hq;omega)
def ToPost (w:World) (x:RI) (e:Ending) (w':World):Prop :=
 ∃A c,e=.returned (.agg #[.int .i64 x.1,.int .u64 x.2.1,.int .u64 x.2.2.1,.int .i64 x.2.2.2.1,.slice A x.2.2.2.2.1.l.length c])∧Hid (w'.ownsRow w.heap.size 35 1 (.slice A x.2.2.2.2.1.l.length c) x.2.2.2.2.1.l.length (x.2.2.2.2.1.l.flatMap u64D))∧Hid (Below w.heap.size w w')
theorem u64_elem:IsElem Tryz.prog 36 35 1 8:=IsElem.mk' Tryz.underlying36 (z:=.int .u64 0) (by kernel_rfl) rfl (by omega)
set_option maxRecDepth 100000 in
set_option maxHeartbeats 800000 in
theorem insTo_any (x:RI) (w:World) (hr:Hid (Reads w w.heap.size 1 x.2.2.2.2.1.at_ x.2.2.2.2.1.l.length (x.2.2.2.2.1.l.flatMap u64D))) (hl:x.2.2.2.2.1.l.length≤1000000) :
  Calls Tryz.prog 66 #[.agg #[.int .i64 x.1,.int .u64 x.2.1,.int .u64 x.2.2.1,.int .i64 x.2.2.2.1,.slice x.2.2.2.2.1.at_ x.2.2.2.2.1.l.length x.2.2.2.2.1.cap]] w (ToPost w x):=by
 obtain⟨c,a,b,al,⟨A,k,l⟩,u⟩:=x
 simp only at hr hl ⊢
 go_enter Tryz.func66,Tryz.ntmps66
 go_wp2_with fail
 obtain⟨W,hW⟩:∃W,((w.alloc (.cells #[.int .i64 c,.int .u64 a,.int .u64 b,.int .i64 al,.slice A l.length k] 38)).alloc (.cells #[.int .i64 0,.int .u64 0,.int .u64 0,.int .i64 0,.slice none 0 0] 133))=W:=⟨_,rfl⟩
 have hbW:Below w.heap.size w W:=by rw[←hW];exact((Below.refl _ _).alloc (Nat.le_refl _) _).alloc (by simp) _
 obtain⟨gb,hgb⟩:∃gb,w.heap.size=gb:=⟨_,rfl⟩
 have hblk:W.heap[gb]?=some (.cells #[.int .i64 c,.int .u64 a,.int .u64 b,.int .i64 al,.slice A l.length k] 38 (0,0)):=by
  rw[←hW,←hgb,Below.heap_alloc _ _ _ (by simp)]
  exact heap_alloc_new w _
 have hblk2:W.heap[gb+1]?=some (.cells #[.int .i64 0,.int .u64 0,.int .u64 0,.int .i64 0,.slice none 0 0] 133 (0,0)):=by
  rw[←hW,←hgb]
  have:=heap_alloc_new (w.alloc (.cells #[.int .i64 c,.int .u64 a,.int .u64 b,.int .i64 al,.slice A l.length k] 38)) (.cells #[.int .i64 0,.int .u64 0,.int .u64 0,.int .i64 0,.slice none 0 0] 133)
  simpa using this
 have hsz:W.heap.size=gb+2:=by rw[←hW,←hgb];simp
 rw[hW,hgb]
 rw[hgb]at hbW hr
 have hrW:=hide (hr.out.below hbW)
 have HB:=hide hbW
 have HW:=hide hW
 have HG:=hide hgb
 clear hbW hW hgb
 have c0:=cell_blk hblk 0
 have c1:=cell_blk hblk 1
 have c2:=cell_blk hblk 2
 have c3:=cell_blk hblk 3
 have c4:=cell_blk hblk 4
 simp at c0 c1 c2 c3 c4
 have HC:CellsOf W (gb+2) gb _:=CellsOf.of hblk (by omega)
 have HK:=hide hblk
 have HK2:=hide hblk2
 clear hblk hblk2
 have hroom:Room 0 l.length 8:=room_of (by omega) (by omega)
 refine wp_region_last (l:=[_,_,_,_,_,_,_,_,_,_,_,_,_]) (o:=_) grew_ext (factsOf [fun v _=>v=.pointer (some ⟨gb,0,none⟩),
  fun v _=>v=.int .i64 c,
  fun v _=>v=.pointer (some ⟨gb,1,none⟩),
  fun v _=>v=.int .u64 a,
  fun v _=>v=.pointer (some ⟨gb,2,none⟩),
  fun v _=>v=.int .u64 b,
  fun v _=>v=.pointer (some ⟨gb,3,none⟩),
  fun v _=>v=.int .i64 al,
  fun v W=>∃g,v=.slice (some ⟨g,0,none⟩) 0 0∧gb+2≤g∧W.heap[g]?=some (.cells #[] 35 (0,0)),
  fun v _=>v=.pointer (some ⟨gb,4,none⟩),
  fun v _=>v=.slice A l.length k,
  fun v W=>∃A1 c1,v=.slice A1 l.length c1∧W.ownsRow (gb+2) 35 1 (.slice A1 l.length c1) l.length (l.flatMap u64D),
  fun v W=>∃A1 c1,v=.agg #[.int .i64 c,.int .u64 a,.int .u64 b,.int .i64 al,.slice A1 l.length c1]∧W.ownsRow (gb+2) 35 1 (.slice A1 l.length c1) l.length (l.flatMap u64D)]) (by kernel_rfl) (by kernel_rfl) (by kernel_rfl) ?_ ?_
 ·refine⟨?_,?_,?_,?_,?_,?_,?_,?_,?_,?_,?_,?_,?_,trivial⟩
  ·refine⟨fun ρ W hk=>?_⟩
   have o1:ρ (.tmp 1)=.pointer (some ⟨gb,0,none⟩):=hk.old 1 (by decide)
   exact OpOut.fieldAddr (x:=.tmp 1) rfl o1 (by go_simp) ⟨Below.refl _ _,rfl⟩
  ·refine⟨fun ρ W hk=>?_⟩
   have h0:=(hk.fact 0 3 (by decide) rfl).pure
   have hc:=HC.out W hk.below 0 (.int .i64 c) rfl
   exact OpOut.load (x:=.tmp 3) rfl h0 (by go_simp) ⟨Below.refl _ _,rfl⟩
  ·refine⟨fun ρ W hk=>?_⟩
   have o1:ρ (.tmp 1)=.pointer (some ⟨gb,0,none⟩):=hk.old 1 (by decide)
   exact OpOut.fieldAddr (x:=.tmp 1) rfl o1 (by go_simp) ⟨Below.refl _ _,rfl⟩
  ·refine⟨fun ρ W hk=>?_⟩
   have h2:=(hk.fact 2 5 (by decide) rfl).pure
   have hc:=HC.out W hk.below 1 (.int .u64 a) rfl
   exact OpOut.load (x:=.tmp 5) rfl h2 (by go_simp) ⟨Below.refl _ _,rfl⟩
  ·refine⟨fun ρ W hk=>?_⟩
   have o1:ρ (.tmp 1)=.pointer (some ⟨gb,0,none⟩):=hk.old 1 (by decide)
   exact OpOut.fieldAddr (x:=.tmp 1) rfl o1 (by go_simp) ⟨Below.refl _ _,rfl⟩
  ·refine⟨fun ρ W hk=>?_⟩
   have h4:=(hk.fact 4 7 (by decide) rfl).pure
   have hc:=HC.out W hk.below 2 (.int .u64 b) rfl
   exact OpOut.load (x:=.tmp 7) rfl h4 (by go_simp) ⟨Below.refl _ _,rfl⟩
  ·refine⟨fun ρ W hk=>?_⟩
   have o1:ρ (.tmp 1)=.pointer (some ⟨gb,0,none⟩):=hk.old 1 (by decide)
   exact OpOut.fieldAddr (x:=.tmp 1) rfl o1 (by go_simp) ⟨Below.refl _ _,rfl⟩
  ·refine⟨fun ρ W hk=>?_⟩
   have h6:=(hk.fact 6 9 (by decide) rfl).pure
   have hc:=HC.out W hk.below 3 (.int .i64 al) rfl
   exact OpOut.load (x:=.tmp 9) rfl h6 (by go_simp) ⟨Below.refl _ _,rfl⟩
  ·refine⟨fun ρ W hk=>?_⟩
   have hz:=HC.size W hk.below
   exact OpOut.buildSlice (us:=#[]) rfl (by simp) (by go_simp) ⟨(Below.refl _ _).alloc (Nat.le_refl _) _,W.heap.size,rfl,hz,heap_alloc_new W _⟩
  ·refine⟨fun ρ W hk=>?_⟩
   have o1:ρ (.tmp 1)=.pointer (some ⟨gb,0,none⟩):=hk.old 1 (by decide)
   exact OpOut.fieldAddr (x:=.tmp 1) rfl o1 (by go_simp) ⟨Below.refl _ _,rfl⟩
  ·refine⟨fun ρ W hk=>?_⟩
   have h9:=(hk.fact 9 12 (by decide) rfl).pure
   have hc:=HC.out W hk.below 4 (.slice A l.length k) rfl
   exact OpOut.load (x:=.tmp 12) rfl h9 (by go_simp) ⟨Below.refl _ _,rfl⟩
  ·refine⟨fun ρ W hk=>?_⟩
   obtain⟨w8,hw8,g8,h8,hg8,hh8⟩:=hk.fact 8 11 (by decide) rfl
   have h10:=(hk.fact 10 13 (by decide) rfl).pure
   have hh8b:=(hw8.block g8 (blk_lt hh8)).trans hh8
   have hz:=HC.size W hk.below
   obtain⟨v2,W2,hrun,ho2,hb2⟩:=append_fresh (w:=W) (ty:=36) u64_elem g8 (gb+2) hg8 hh8b gb A l.length k (l.flatMap u64D) (hrW.out.below (hk.below.mono (by omega))) u64D_one hroom hz
   obtain⟨A2,k2,rfl,hk2,hk3⟩:=own_form ho2
   exact OpOut.append rfl h8 h10 hrun ⟨hb2,A2,k2,rfl,ho2⟩
  ·refine⟨fun ρ W hk=>?_⟩
   have h1:=(hk.fact 1 4 (by decide) rfl).pure
   have h3:=(hk.fact 3 6 (by decide) rfl).pure
   have h5:=(hk.fact 5 8 (by decide) rfl).pure
   have h7:=(hk.fact 7 10 (by decide) rfl).pure
   obtain⟨w11,hw11,A11,c11,h11,ho11⟩:=hk.fact 11 14 (by decide) rfl
   exact OpOut.build (us:=#[(0,.int .i64 c),(1,.int .u64 a),(2,.int .u64 b),(3,.int .i64 al),(4,.slice A11 l.length c11)]) rfl (by simp[h1,h3,h5,h7,h11]) (by go_simp) ⟨Below.refl _ _,A11,c11,rfl,own_only3 (S:=[]) ho11 (Only.of_below hw11) (by simp)⟩
 ·intro vs W2 hb hf
  obtain⟨w12,hw12,A12,c12,h12,ho12⟩:=hf 12 (by decide)
  have hown:=hide (own_only3 (S:=[]) ho12 (Only.of_below hw12) (by simp))
  clear hf
  simp only[fillL]
  rw[h12]
  generalize vs 0=v0,vs 1=v1,vs 2=v2,vs 3=v3,vs 4=v4,vs 5=v5,vs 6=v6,vs 7=v7,vs 8=v8,vs 9=v9,vs 10=v10,vs 11=v11
  have hblk3:=(hb.block (gb+1) (by omega)).trans HK2.out
  have e0:W2.cell? ⟨gb+1,0,none⟩=some (.int .i64 0):=cell_blk hblk3 0
  have e1:W2.cell? ⟨gb+1,1,none⟩=some (.int .u64 0):=cell_blk hblk3 1
  have e2:W2.cell? ⟨gb+1,2,none⟩=some (.int .u64 0):=cell_blk hblk3 2
  have e3:W2.cell? ⟨gb+1,3,none⟩=some (.int .i64 0):=cell_blk hblk3 3
  have e4:W2.cell? ⟨gb+1,4,none⟩=some (.slice none 0 0):=cell_blk hblk3 4
  have z0:=frozen_blk hblk3 0
  have z1:=frozen_blk hblk3 1
  have z2:=frozen_blk hblk3 2
  have z3:=frozen_blk hblk3 3
  have z4:=frozen_blk hblk3 4
  clear hblk3 h12 hw12 ho12
  go_frame
  go_wp2_with fail
  have hs5:∀(V:World) (i:Nat) (x:Value),Only [gb+1] V (V.setCell ⟨gb+1,i,none⟩ x):=fun V i x=>Only.setCell V (p:=⟨gb+1,i,none⟩) (by simp) x
  have ho5:=(((((hs5 W2 0 (.int .i64 c))).trans (hs5 _ 1 (.int .u64 a))).trans (hs5 _ 2 (.int .u64 b))).trans (hs5 _ 3 (.int .i64 al))).trans (hs5 _ 4 (.slice A12 l.length c12))
  have hblk4:=(hb.block (gb+1) (by omega)).trans HK2.out
  have hbF:=setCell_blk (setCell_blk (setCell_blk (setCell_blk (setCell_blk hblk4 0 (.int .i64 c)) 1 (.int .u64 a)) 2 (.int .u64 b)) 3 (.int .i64 al)) 4 (.slice A12 l.length c12)
  generalize ((((W2.setCell ⟨gb+1,0,none⟩ (.int .i64 c)).setCell ⟨gb+1,1,none⟩ (.int .u64 a)).setCell ⟨gb+1,2,none⟩ (.int .u64 b)).setCell ⟨gb+1,3,none⟩ (.int .i64 al)).setCell ⟨gb+1,4,none⟩ (.slice A12 l.length c12)=Wf at ho5 hbF ⊢
  clear e0 e1 e2 e3 e4 z0 z1 z2 z3 z4
  have f0:Wf.cell? ⟨gb+1,0,none⟩=some (.int .i64 c):=cell_blk hbF 0
  have f1:Wf.cell? ⟨gb+1,1,none⟩=some (.int .u64 a):=cell_blk hbF 1
  have f2:Wf.cell? ⟨gb+1,2,none⟩=some (.int .u64 b):=cell_blk hbF 2
  have f3:Wf.cell? ⟨gb+1,3,none⟩=some (.int .i64 al):=cell_blk hbF 3
  have f4:Wf.cell? ⟨gb+1,4,none⟩=some (.slice A12 l.length c12):=cell_blk hbF 4
  refine bodyPost_ret (v:=.agg #[.int .i64 c,.int .u64 a,.int .u64 b,.int .i64 al,.slice A12 l.length c12]) (by simp[results,Tryz.results66,go_sem,f0,f1,f2,f3,f4]) rfl ?_
  refine⟨A12,c12,rfl,?_,?_⟩
  ·have h9:=own_only3 hown.out ho5 (fun g hg=>by have:=own_ge hown.out g hg;simp;omega)
   exact own_base h9 (fun g hg=>by have:=own_ge hown.out g hg;rw[HG.out];omega)
  ·have h9:Below gb w W2:=HB.out.trans (hb.mono (by omega))
   have h10:=h9.size
   rw[HG.out]at h10 ⊢
   exact h9.trans (ho5.below h10 (by simp))
end Go.Proofs.YtmekgpdfiimofaaGreatDoor
