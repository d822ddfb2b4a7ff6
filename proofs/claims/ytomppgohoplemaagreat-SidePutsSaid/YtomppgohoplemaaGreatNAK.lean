import Derived.Test.YtomppgohoplemaaGreatNAA
import Derived.ChangeArms
import Derived.ChangeOld
import Derived.Deep.Slices
import Derived.SizedLaws
namespace Go.Proofs.YtomppgohoplemaaGreat
open Go.RowKit Go.ChangeShapes Go.WideShapes Go.Deep
def Opens {H:Type} (enc:TypeId×Value→H) (P:Program) (w:World) (e:TypeId) {α:Type} (dec:α→List Value) (ok:α→Prop):Prop :=
 ∀(spare:Nat→Bool) (held:Bool) (m:Nat) (cs:List Value) (y:DataW H×List MemPlace),DataW.trod enc P w 0 spare held m e cs=some y→(∀n∈y.1.weights P e,n≤reachBytes)→∃a:α,cs=dec a∧ok a
def OpensF {H:Type} (enc:TypeId×Value→H) (P:Program) (w:World) (fs:List Field) (off:Nat) {α:Type} (dec:α→List Value) (ok:α→Prop):Prop :=
 ∀(spare:Nat→Bool) (held:Bool) (m:Nat) (cs:List Value),cs.length=off+(fs.map fun f=>P.cellsOf f.type).sum→(∀f∈fs,∃y,DataW.trod enc P w 0 spare held m f.type ((cs.drop f.offset).take (P.cellsOf f.type))=some y∧∀n∈y.1.weights P f.type,n≤reachBytes)→∃a:α,cs.drop off=dec a∧ok a
section
variable {H:Type} {enc:TypeId×Value→H} {P:Program} {w:World}
theorem Opens.int {e:TypeId} {k:IntKind} (he:P.underlying e=some (.int k)):Opens enc P w e (fun n:Int=>[.int k n]) (fun n=>(Lit.int k n).wf=true):=by
 intro spare held m cs y h _
 obtain⟨n,rfl,_,hw⟩:=DataW.trod_int he h
 exact⟨n,rfl,hw⟩
theorem Opens.bool {e:TypeId} (he:P.underlying e=some .bool):Opens enc P w e (fun b:Bool=>[.bool b]) (fun _=>True):=by
 intro spare held m cs y h _
 obtain⟨b,rfl,_⟩:=DataW.trod_bool he h
 exact⟨b,rfl,trivial⟩
structure Sl (α:Type) where
 at_:Option Addr
 cap:Nat
 l:List α
def Sl.val {α:Type} (s:Sl α):Value:=.slice s.at_ s.l.length s.cap
theorem flatMap_get {α:Type} {dec:α→List Value} {size:Nat} (hd:∀a,(dec a).length=size):∀(ys:List α) (i j:Nat) (a:α),ys[i]?=some a→j<size→(ys.flatMap dec)[i*size+j]?=(dec a)[j]?:=by
 intro ys
 induction ys with
 | nil=>intro i j a h;simp at h
 | cons b r ih =>
  intro i j a h hj
  rw[List.flatMap_cons]
  cases i with
  | zero =>
   have:b=a:=by simpa using h
   subst this
   rw[Nat.zero_mul,Nat.zero_add,List.getElem?_append_left (by rw[hd];exact hj)]
  | succ i =>
   rw[List.getElem?_append_right (by rw[hd,Nat.succ_mul];omega),hd,show (i+1)*size+j-size=i*size+j from by rw[Nat.succ_mul];omega]
   exact ih i j a (by simpa using h) hj
theorem flatMap_len {α:Type} {dec:α→List Value} {size:Nat} (hd:∀a,(dec a).length=size) (ys:List α):(ys.flatMap dec).length=ys.length*size:=by
 induction ys with
 | nil=>simp
 | cons b r ih=>rw[List.flatMap_cons,List.length_append,hd,ih,List.length_cons,Nat.succ_mul];omega
structure Sl.Ok {α:Type} (w:World) (dec:α→List Value) (size bytes:Nat) (ok:α→Prop) (s:Sl α):Prop where
 reads:Reads w w.heap.size size s.at_ s.l.length (s.l.flatMap dec)
 len:s.l.length≤s.cap
 cap:s.cap≤maxLen
 reach:s.l.length*bytes≤140737488351232
 nil_:s.at_=none→s.l=[]∧s.cap=0
 all:∀a∈s.l,ok a
theorem weightsAll_mem {e:TypeId}:∀{ds:List (DataW H)} {d:DataW H},d∈ds→∀n∈d.weights P e,n∈DataW.weightsAll P e ds
 | [],d,h,_,_=>by simp at h
 | d0::r,d,h,n,hn=>by
  simp only[DataW.weightsAll,List.mem_append]
  rcases List.mem_cons.1 h with rfl|h
  ·exact .inl hn
  ·exact .inr (weightsAll_mem h n hn)
theorem Opens.slice {t e:TypeId} {α:Type} {dec:α→List Value} {ok:α→Prop} {size bytes:Nat} (ht:P.underlying t=some (.slice e)) (hC:P.cellsOf e=size) (hB:P.bytesOf e=bytes) (hpos:0<size) (hd:∀a,(dec a).length=size) (h:Opens enc P w e dec ok) :
  Opens enc P w t (fun s:Sl α=>[s.val]) (Sl.Ok w dec size bytes ok):=by
 intro spare held m cs y hy hw
 rcases open_slice ht hy with ⟨rfl,_⟩|⟨a,len,cap,k,n,D,Pl,rfl,_,hl,hm,hk,hyy,hi⟩
 ·exact⟨⟨none,0,[]⟩,rfl,⟨Reads.none_,Nat.le_refl _,by show 0≤maxLen;unfold maxLen;omega,by simp,fun _=>⟨rfl,rfl⟩,by simp⟩⟩
 ·have hkl:len≤k:=by rw[hk];split<;>omega
  have hreach:len*bytes≤140737488351232:=by
   have:=hw ((((List.range len).map D).length+((List.range (k-len)).map fun j=>D (len+j)).length)*P.bytesOf e) (by
    rw[hyy]
    simp only[DataW.weights,ht]
    exact List.mem_cons_self ..)
   rw[hB]at this
   simp only[List.length_map,List.length_range,reachBytes]at this
   exact Nat.le_trans (Nat.mul_le_mul_right _ (Nat.le_add_right _ _)) this
  have hel:∀i,i<len→∃b:α,(∀j,j<size→w.cell? (a.add (i*size+j))=(dec b)[j]?)∧ok b:=by
   intro i hi'
   obtain⟨cs',hc,ht'⟩:=hi i (by omega)
   rw[hC]at hc
   obtain⟨_,hlen,hcell⟩:=World.cells?_some hc
   obtain⟨b,rfl,hb⟩:=h spare held n cs' _ ht' (fun q hq=>hw q (by
    rw[hyy]
    simp only[DataW.weights,ht]
    refine List.mem_cons_of_mem _ (List.mem_append_left _ ?_)
    exact weightsAll_mem (List.mem_map.2 ⟨i,List.mem_range.2 hi',rfl⟩) q hq))
   exact⟨b,fun j hj=>by rw[←hcell j hj,add_of_add],hb⟩
  have hex:∃ys:List α,ys.length=len∧∀(i:Nat) (b:α),ys[i]?=some b→(∀j,j<size→w.cell? (a.add (i*size+j))=(dec b)[j]?)∧ok b:=by
   clear hi hl hm hk hkl hy h hyy hreach
   induction len with
   | zero=>exact⟨[],rfl,by simp⟩
   | succ len ih =>
    obtain⟨ys,h1,h2⟩:=ih (fun i hi'=>hel i (by omega))
    obtain⟨b,hb⟩:=hel len (by omega)
    refine⟨ys++[b],by simp[h1],fun i c hc=>?_⟩
    by_cases hil:i<ys.length
    ·rw[List.getElem?_append_left hil]at hc
     exact h2 i c hc
    ·rw[List.getElem?_append_right (by omega)]at hc
     have hi0:i-ys.length=0:=by
      have:=(List.getElem?_eq_some_iff.1 hc).1
      simp at this
      omega
     rw[hi0]at hc
     have:b=c:=by simpa using hc
     subst this
     rw[show i=len from by omega]
     exact hb
  obtain⟨ys,h1,h2⟩:=hex
  subst h1
  refine⟨⟨some a,cap,ys⟩,rfl,⟨⟨flatMap_len hd ys,fun hn=>⟨a,rfl,?_,fun j u hu=>?_⟩⟩,hl,hm,hreach,(fun h=>by cases h),fun b hb=>?_⟩⟩
  ·have hn':0<ys.length:=hn
   obtain⟨h3,_⟩:=h2 0 ys[0] (List.getElem?_eq_getElem hn')
   have h4:=h3 0 hpos
   have hlt:0<(dec ys[0]).length:=by rw[hd];exact hpos
   rw[List.getElem?_eq_getElem hlt]at h4
   have:=World.block_lt_of_cell? w _ h4
   rw[block_of_add]at this
   exact this
  ·have hj:j<ys.length*size:=by
    have:=(List.getElem?_eq_some_iff.1 hu).1
    rw[flatMap_len hd]at this
    exact this
   have hq:j/size<ys.length:=(Nat.div_lt_iff_lt_mul hpos).2 hj
   have hr:j%size<size:=Nat.mod_lt _ hpos
   have hjj:j/size*size+j%size=j:=by rw[Nat.mul_comm];exact Nat.div_add_mod j size
   obtain⟨h3,_⟩:=h2 _ _ (List.getElem?_eq_getElem hq)
   have h4:=h3 _ hr
   have h5:=flatMap_get hd ys _ _ _ (List.getElem?_eq_getElem hq) hr
   rw[hjj]at h4 h5
   rw[h4,←h5]
   exact hu
  ·obtain⟨i,hi',hb'⟩:=List.getElem_of_mem hb
   exact(h2 i b (by rw[List.getElem?_eq_getElem hi',hb'])).2
theorem OpensF.nil {off:Nat}:OpensF enc P w [] off (fun _:Unit=>[]) (fun _=>True):=by
 intro spare held m cs hl _
 exact⟨(),by simp at hl;simp[hl],trivial⟩
theorem OpensF.cons {f:Field} {fs:List Field} {off k:Nat} {α β:Type} {dec:α→List Value} {ok:α→Prop} {dec':β→List Value} {ok':β→Prop} (ho:f.offset=off) (hk:P.cellsOf f.type=k)
  (h:Opens enc P w f.type dec ok) (hs:OpensF enc P w fs (off+k) dec' ok'):OpensF enc P w (f::fs) off (fun p:α×β=>dec p.1++dec' p.2) (fun p=>ok p.1∧ok' p.2):=by
 intro spare held m cs hl hall
 obtain⟨y,hy,hyw⟩:=hall f (by simp)
 obtain⟨a,ha,hoka⟩:=h spare held m _ y hy hyw
 obtain⟨b,hb,hokb⟩:=hs spare held m cs (by rw[hl,List.map_cons,List.sum_cons,hk];omega) (fun g hg=>hall g (by simp[hg]))
 refine⟨(a,b),?_,hoka,hokb⟩
 simp only
 rw[←ha,←hb,ho,hk,←List.drop_drop,List.take_append_drop]
theorem Opens.struct {t:TypeId} {fs:Array Field} {α:Type} {dec:α→List Value} {ok:α→Prop} (ht:P.underlying t=some (.struct fs)) (hC:P.cellsOf t=(fs.toList.map fun f=>P.cellsOf f.type).sum)
  (h:OpensF enc P w fs.toList 0 dec ok):Opens enc P w t dec ok:=by
 intro spare held m cs y hy hw
 obtain⟨xs,n,_,hyy,hlen,hxs,hf⟩:=DataW.trod_struct ht hy
 obtain⟨a,ha,hok⟩:=h spare held n cs (by rw[hlen,hC,Nat.zero_add]) (fun f hf'=>by
  obtain⟨i,hi,hif⟩:=List.getElem_of_mem hf'
  have hi':i<fs.size:=by simpa using hi
  have h1:=hf i f (by rw[Array.getElem?_eq_getElem hi'];simpa using hif)
  have h2:i<xs.length:=by omega
  refine⟨xs[i],by rw[h1,List.getElem?_eq_getElem h2],fun q hq=>hw q ?_⟩
  rw[hyy]
  simp only[DataW.weights,ht]
  refine DataW.weights_mem_each (j:=i) (t:=f.type) (d:=(xs[i]).1) ?_ ?_ q hq
  ·rw[List.getElem?_map,Array.getElem?_toList,Array.getElem?_eq_getElem hi']
   simp only[Option.map_some,Option.some.injEq]
   rw[show fs[i]=f from by simpa using hif]
  ·rw[List.getElem?_map,List.getElem?_eq_getElem h2]
   rfl)
 exact⟨a,by simpa using ha,hok⟩
end
end Go.Proofs.YtomppgohoplemaaGreat
