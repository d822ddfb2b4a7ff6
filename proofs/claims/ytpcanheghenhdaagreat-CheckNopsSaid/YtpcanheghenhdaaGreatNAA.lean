import Derived.WalkKit
import Derived.WalkSpells
import Derived.WalkLawsBesides
import Derived.Lib.Hide
import Derived.Maps.AppendAt
import Derived.Deep.AppendLies
import Derived.Deep.Draws
import Derived.Laws.OwnMore
import Derived.ChangeArms
import Derived.ChangeOld
import Derived.Deep.Slices
import Derived.SizedLaws
import Derived.Test.YtpcanheghenhdaaGreatRows
import Derived.RowKit
set_option linter.unusedVariables false
namespace Go.Proofs.YtpcanheghenhdaaGreat
open Go.RowKit
theorem hide {p:Prop} (h:p):Hid p:=h
theorem ret_int {k:IntKind} {a b:Int} (h:a=b):Ending.returned (.int k a)=.returned (.int k b):=by rw[h]
theorem int_congr {k:IntKind} {a b:Int} (h:a=b):Value.int k a=Value.int k b:=by rw[h]
theorem results_tmp4 {fn:Func} {t u v x:Tmp} (h:fn.results=#[.tmp t,.tmp u,.tmp v,.tmp x]) (tmps:Array Value) (P:Program) (w:World) :
  (results fn tmps).run P w=.ok (.tuple #[tmps.getD t undef,tmps.getD u undef,tmps.getD v undef,tmps.getD x undef]) w:=by simp[results,h]
def B (b:UInt8):Value:=.int .u8 (b.toNat:Int)
theorem B_ofNat (n:Nat) (h:n<256):Value.int .u8 (n:Int)=B (UInt8.ofNat n):=by
 unfold B
 have:(UInt8.ofNat n).toNat=n:=by simp[UInt8.toNat_ofNat'];omega
 rw[this]
theorem B_map_one (bs:List UInt8):∀u∈bs.map B,u.oneCell'=true:=by
 intro u hu;obtain⟨b,_,rfl⟩:=List.mem_map.1 hu;rfl
theorem block_of_add (a:Addr) (n:Nat):(a.add n).block=a.block:=by unfold Addr.add;split<;>rfl
theorem add_of_add (a:Addr) (i j:Nat):(a.add i).add j=a.add (i+j):=by
 unfold Addr.add
 by_cases hi:i=0<;>by_cases hj:j=0<;>simp[hi,hj,Nat.add_assoc]
def Reads (w:World) (Bk size:Nat) (A:Option Addr) (n:Nat) (xs:List Value):Prop :=
 xs.length=n*size∧(0<n→∃ad,A=some ad∧ad.block<Bk∧∀j u,xs[j]?=some u→w.cell? (ad.add j)=some u)
section
variable {w w':World} {Bk Bk' size n:Nat} {A:Option Addr} {xs:List Value}
theorem Reads.none_:Reads w Bk size A 0 []:=⟨by simp,fun h=>absurd h (by omega)⟩
theorem Reads.at_ {k:Nat} (h:Reads w Bk 1 A n xs) (hk:k<n):∃ad u,A=some ad∧ad.block<Bk∧xs[k]?=some u∧w.cell? (ad.add k)=some u:=by
 obtain⟨ad,e,hb,hc⟩:=h.2 (by omega)
 have hl:k<xs.length:=by have:=h.1;omega
 exact⟨ad,xs[k],e,hb,List.getElem?_eq_getElem hl,hc k _ (List.getElem?_eq_getElem hl)⟩
theorem Reads.elem {α:Type} {f:α→Value} {ys:List α} {k:Nat} (h:Reads w Bk 1 A ys.length (ys.map f)) (hk:k<ys.length) :
  ∃(ad:Addr) (c:α),A=some ad∧Hid (ys[k]?=some c)∧w.cell? (ad.add k)=some (f c):=by
 obtain⟨ad,u,h1,_,h2,h3⟩:=h.at_ hk
 refine⟨ad,ys[k],h1,List.getElem?_eq_getElem hk,?_⟩
 rw[h3]
 rw[List.getElem?_map,List.getElem?_eq_getElem hk]at h2
 exact h2.symm
theorem Reads.byte {bs:List UInt8} {k:Nat} (h:Reads w Bk 1 A bs.length (bs.map B)) (hk:k<bs.length) :
  ∃(ad:Addr) (c:UInt8),A=some ad∧Hid (bs[k]?=some c)∧w.cell? (ad.add k)=some (.int .u8 (c.toNat:Int))∧(0:Int)≤(c.toNat:Int)∧(c.toNat:Int)≤255:=by
 obtain⟨ad,c,h1,h2,h3⟩:=h.elem hk
 have:=c.toNat_lt
 exact⟨ad,c,h1,h2,h3,by omega,by omega⟩
theorem Reads.keep (h:Reads w Bk size A n xs) (hk:∀p:Addr,p.block<Bk→w'.cell? p=w.cell? p):Reads w' Bk size A n xs :=
 ⟨h.1,fun hn=>by
  obtain⟨ad,e,hb,hc⟩:=h.2 hn
  exact⟨ad,e,hb,fun j u hu=>(hk _ (by rw[block_of_add];exact hb)).trans (hc j u hu)⟩⟩
theorem Reads.more (h:Reads w Bk size A n xs) (hB:Bk≤Bk'):Reads w Bk' size A n xs :=
 ⟨h.1,fun hn=>by
  obtain⟨ad,e,hb,hc⟩:=h.2 hn
  exact⟨ad,e,by omega,hc⟩⟩
theorem Reads.below (h:Reads w Bk size A n xs) (hb:Below Bk w w'):Reads w' Bk size A n xs:=h.keep fun _ hp=>hb.cell hp
theorem Reads.drew (h:Reads w Bk size A n xs):Reads w.drew Bk size A n xs:=h
theorem Reads.drewN (h:Reads w Bk size A n xs) (k:Nat):Reads (w.drewN k) Bk size A n xs:=h
theorem Reads.alloc (h:Reads w Bk size A n xs) (hB:Bk≤w.heap.size) (o:Obj):Reads (w.alloc o) Bk size A n xs:=h.keep fun p hp=>World.cell?_alloc_lt w o p (by omega)
theorem Reads.setCell (h:Reads w Bk size A n xs) {p:Addr} (hB:Bk≤p.block) (u:Value):Reads (w.setCell p u) Bk size A n xs :=
 h.keep fun q hq=>World.cell?_setCell_other w p q u (fun e=>by subst e;omega)
theorem Reads.grown (h:Reads w Bk size A n xs) {row:Option Nat} (hg:w.grownBy w' row) (hB:Bk≤w.heap.size) (hr:∀g,row=some g→Bk≤g):Reads w' Bk size A n xs :=
 h.keep fun p hp=>World.cell?_of_block (hg.block p.block (by omega) (fun e=>by have:=hr _ e.symm;omega))
theorem Reads.cut (h:Reads w Bk size A n xs) {k cap:Nat} (hk:k≤n) (hc:n≤cap) :
  Reads w Bk size (if cap=k then A else A.map (·.add (k*size))) (n-k) (xs.drop (k*size)):=by
 refine⟨by rw[List.length_drop,h.1,Nat.sub_mul],fun hn=>?_⟩
 obtain⟨ad,rfl,hb,hcell⟩:=h.2 (by omega)
 rw[if_neg (by omega)]
 refine⟨ad.add (k*size),rfl,by rw[block_of_add];exact hb,fun j u hu=>?_⟩
 rw[add_of_add]
 exact hcell _ u (by rw[←hu,List.getElem?_drop])
theorem Reads.upto (h:Reads w Bk size A n xs) {k:Nat} (hk:k≤n):Reads w Bk size A k (xs.take (k*size)):=by
 refine⟨by rw[List.length_take,h.1,Nat.min_eq_left (Nat.mul_le_mul_right _ hk)],fun hn=>?_⟩
 obtain⟨ad,rfl,hb,hcell⟩:=h.2 (by omega)
 refine⟨ad,rfl,hb,fun j u hu=>hcell j u ?_⟩
 rw[List.getElem?_take]at hu
 split at hu
 ·exact hu
 ·cases hu
theorem Reads.of_own {base:Nat} {e:TypeId} {c:Nat} (h:w.ownsRow base e size (.slice A n c) n xs):Reads w w.heap.size size A n xs:=by
 refine⟨h.1,fun hn=>?_⟩
 obtain⟨g,cap,hv,_,hlt⟩:=h.form hn
 have hA:A=some ⟨g,0,none⟩:=by injection hv
 subst hA
 exact⟨_,rfl,hlt,h.cells (g:=g) rfl⟩
theorem Reads.of_new (w:World) (cs:List Value) (e:TypeId) (n:Nat) (hn:cs.length=n):Reads (w.alloc (.cells cs.toArray e)) (w.heap.size+1) 1 (some ⟨w.heap.size,0,none⟩) n cs:=by
 refine⟨by omega,fun _=>⟨_,rfl,by simp,fun j u hu=>?_⟩⟩
 have hadd:(⟨w.heap.size,0,none⟩:Addr).add j=⟨w.heap.size,j,none⟩:=by unfold Addr.add;split<;>simp_all
 rw[hadd,cell_of_row (w.alloc (.cells cs.toArray e)) w.heap.size j cs.toArray e (0,0) (heap_alloc_new w _)]
 simpa using hu
end
theorem own_form {w:World} {base:Nat} {e:TypeId} {size n:Nat} {v:Value} {xs:List Value} (h:w.ownsRow base e size v n xs):∃A c,v=.slice A n c∧n≤c∧c≤maxLen:=by
 rcases h.2 with ⟨rfl,rfl⟩|⟨g,cap,cur,rfl,_,_,h1,h2,_⟩
 ·exact⟨none,0,rfl,Nat.le_refl _,by unfold maxLen;omega⟩
 ·exact⟨_,_,rfl,h1,h2⟩
structure Grows (w w':World) (v v':Value):Prop where
 by_:w.grownBy w' v.ownBlock
 lies:v'.ownBlock=v.ownBlock∨∃g,v'.ownBlock=some g∧w.heap.size≤g
theorem Grows.refl (w:World) (v:Value):Grows w w v v:=⟨⟨rfl,rfl,rfl,Nat.le_refl _,fun _ _ _=>rfl⟩,.inl rfl⟩
theorem Grows.trans {w w1 w2:World} {v v1 v2:Value} (h:Grows w w1 v v1) (k:Grows w1 w2 v1 v2):Grows w w2 v v2:=by
 refine⟨⟨k.by_.os.trans h.by_.os,k.by_.tape.trans h.by_.tape,k.by_.output.trans h.by_.output,Nat.le_trans h.by_.size k.by_.size,fun i hi hne=>?_⟩,?_⟩
 ·refine(k.by_.block i (Nat.lt_of_lt_of_le hi h.by_.size) ?_).trans (h.by_.block i hi hne)
  rcases h.lies with e|⟨g,e,hg⟩
  ·rw[e];exact hne
  ·rw[e];intro hh;injection hh with hh;omega
 ·rcases k.lies with e|⟨g,e,hg⟩
  ·rw[e];exact h.lies
  ·exact .inr ⟨g,e,Nat.le_trans h.by_.size hg⟩
theorem Grows.alloc_first {w w':World} {v v':Value} {o:Obj} (h:Grows (w.alloc o) w' v v'):Grows w w' v v':=by
 refine⟨⟨h.by_.os,h.by_.tape,h.by_.output,Nat.le_trans (by simp) h.by_.size,fun i hi hne=>(h.by_.block i (by simp;omega) hne).trans (Below.heap_alloc w o i hi)⟩,?_⟩
 rcases h.lies with e|⟨g,e,hg⟩
 ·exact .inl e
 ·exact .inr ⟨g,e,by simp at hg;omega⟩
theorem Grows.below {w w':World} {v v':Value} (h:Grows w w' v v') {Bk:Nat} (hB:Bk≤w.heap.size) (hv:∀g,v.ownBlock=some g→Bk≤g):Below Bk w w' :=
 (Below.refl _ _).grown h.by_ hB hv
theorem Grows.below' {a w w':World} {v v':Value} (h:Grows w w' v v') {Bk:Nat} (ha:Below Bk a w) (hB:Bk≤w.heap.size) (hv:∀g,v.ownBlock=some g→Bk≤g):Below Bk a w' :=
 ha.grown h.by_ hB hv
theorem Grows.of_below {w w':World} {v:Value} (h:Below w.heap.size w w'):Grows w w' v v:=⟨⟨h.os,h.tape,h.output,h.size,fun i hi _=>h.block i hi⟩,.inl rfl⟩
theorem own_ge {w:World} {base:Nat} {e:TypeId} {size n:Nat} {v:Value} {xs:List Value} (h:w.ownsRow base e size v n xs):∀g,v.ownBlock=some g→base≤g:=fun g hg=>(h.lt g hg).1
theorem own_nil (w:World) (base:Nat) (e:TypeId) (size:Nat):w.ownsRow base e size (.slice none 0 0) 0 []:=⟨by simp,.inl ⟨rfl,rfl⟩⟩
theorem own_cast {w:World} {base:Nat} {e:TypeId} {size n n':Nat} {v:Value} {xs xs':List Value} (h:w.ownsRow base e size v n xs) (hn:n=n') (hx:xs=xs'):w.ownsRow base e size v n' xs':=by subst hn;subst hx;exact h
theorem own_base {w:World} {base base':Nat} {e:TypeId} {size n:Nat} {v:Value} {xs:List Value} (h:w.ownsRow base e size v n xs) (hb:∀g,v.ownBlock=some g→base'≤g):w.ownsRow base' e size v n xs:=by
 refine⟨h.1,?_⟩
 rcases h.2 with hn|⟨g,cap,cur,rfl,_,rest⟩
 ·exact .inl hn
 ·exact .inr ⟨g,cap,cur,rfl,hb g rfl,rest⟩
theorem own_below {w w':World} {base base':Nat} {e:TypeId} {size n:Nat} {v:Value} {xs:List Value} (h:w.ownsRow base e size v n xs) (hb:Below base' w w') (hlt:∀g,v.ownBlock=some g→g<base'):w'.ownsRow base e size v n xs:=by
 refine⟨h.1,?_⟩
 rcases h.2 with hn|⟨g,cap,cur,rfl,hbg,hh,rest⟩
 ·exact .inl hn
 ·exact .inr ⟨g,cap,cur,rfl,hbg,by rw[hb.block g (hlt g rfl)];exact hh,rest⟩
def IsElem (P:Program) (t e:TypeId) (size bytes:Nat):Prop :=
 P.underlying t=some (.slice e)∧∃i z,P.info? e=some i∧i.zero=some z∧i.size=size∧i.bytes=bytes∧z.cells.size=size∧0<size
theorem IsElem.mk' {P:Program} {t e:TypeId} {z:Value} {size bytes:Nat} (ht:P.underlying t=some (.slice e)) (hi:(P.info? e).map (fun i=>(i.zero,i.size,i.bytes))=some (some z,size,bytes)) (hz:z.cells.size=size) (hs:0<size):IsElem P t e size bytes:=by
 refine⟨ht,?_⟩
 cases h:P.info? e with
 | none=>rw[h]at hi;cases hi
 | some i =>
  rw[h]at hi
  simp only[Option.map_some,Option.some.injEq,Prod.mk.injEq]at hi
  exact⟨i,z,rfl,hi.1,hi.2.1,hi.2.2,hz,hs⟩
def Room (n m bytes:Nat):Prop:=n+m≤maxLen∧(n+m)*bytes≤140737488355328
theorem room_of {n m bytes:Nat} (h:n+m≤2000000000) (hb:bytes≤1000):Room n m bytes:=by
 refine⟨by unfold maxLen;omega,?_⟩
 have:=Nat.mul_le_mul h hb
 omega
section
variable {P:Program} {w:World}
theorem run_append_of_nil (base:Nat) (t ty e:TypeId) (i:TypeInfo) (size:Nat) (ht:P.underlying t=some (.slice e)) (hi:P.info? e=some i)
  (v:Value) (n:Nat) (xs:List Value) (hown:w.ownsRow base e size v n xs) (c:Nat):(Builtin.append_ #[t,t] ty #[v,.slice none 0 c]).run P w=.ok v w:=by
 rcases hown.2 with ⟨rfl,rfl⟩|⟨g,cap,cur,rfl,_,_,hnc,_⟩
 ·simp[Builtin.append_,run_underlying ht,sizeOf,typeInfo,hi,Builtin.lenOf,Builtin.firstCells]
 ·simp[Builtin.append_,run_underlying ht,sizeOf,typeInfo,hi,Builtin.lenOf,Builtin.firstCells,hnc,storeCells]
theorem run_append_any (base:Nat) {t ty e:TypeId} {size bytes:Nat} (hE:IsElem P t e size bytes)
  (v:Value) (n:Nat) (xs:List Value) (hown:w.ownsRow base e size v n xs)
  (Bk:Nat) (A:Option Addr) (m c:Nat) (news:List Value) (hr:Reads w Bk size A m news) (h1:∀u∈news,u.oneCell'=true)
  (hroom:Room n m bytes) (hbase:base≤w.heap.size) :
  ∃v' w',(Builtin.append_ #[t,t] ty #[v,.slice A m c]).run P w=.ok v' w'∧w'.ownsRow base e size v' (n+m) (xs++news)∧Grows w w' v v':=by
 obtain⟨ht,i,z,hi,hz,hsize,hby,hzs,hsz⟩:=hE
 rcases A with _|ad
 ·have hm:m=0:=by
   rcases Nat.eq_zero_or_pos m with h0|h0
   ·exact h0
   ·obtain⟨ad,h,_⟩:=hr.2 h0
    cases h
  subst hm
  have hn:news=[]:=List.eq_nil_of_length_eq_zero (by simpa using hr.1)
  subst hn
  exact⟨v,w,run_append_of_nil base t ty e i size ht hi v n xs hown c,by simpa using hown,Grows.refl _ _⟩
 ·have hcells:∀j u,news[j]?=some u→w.cell? (ad.add j)=some u:=by
   intro j u hu
   rcases Nat.eq_zero_or_pos m with h0|h0
   ·subst h0
    have hn:news=[]:=List.eq_nil_of_length_eq_zero (by simpa using hr.1)
    subst hn
    simp at hu
   ·obtain⟨ad',h,_,hc⟩:=hr.2 h0
    injection h with h
    subst h
    exact hc j u hu
  obtain⟨v',w',hrun,h2,h3,_,h5⟩:=run_append_own_at (P:=P) w base t ty e i z size bytes ht hi hz hsize hby hzs hsz v n xs hown ad m c news hr.1 hcells h1 hroom.1 hroom.2 hbase
  refine⟨v',w',hrun,h2,h3,?_⟩
  rcases h5 with h5|h5
  ·exact .inl h5
  ·exact .inr ⟨_,h5,Nat.le_refl _⟩
theorem wp_append_any {o:Oper} {a:Act} {K:Act→World→Prop} {Q:Exit→Act→World→Prop} (s x:Operand) {t:TypeId}
  (ho:o.op=.call { callee:=.builtin .append,args:=#[s,x],argTypes:=#[t,t] })
  (base:Nat) {e:TypeId} {size bytes:Nat} (hE:IsElem P t e size bytes)
  (v:Value) (n:Nat) (xs:List Value) (hs:a.eval s=v) (hown:w.ownsRow base e size v n xs)
  (Bk:Nat) (A:Option Addr) (m c:Nat) (news:List Value) (hx:a.eval x=.slice A m c) (hr:Reads w Bk size A m news) (h1:∀u∈news,u.oneCell'=true)
  (hroom:Room n m bytes) (hbase:base≤w.heap.size)
  (h:∀v' w',w'.ownsRow base e size v' (n+m) (xs++news)→Grows w w' v v'→K (a.put o.dst v') w'):o.wp P a w K Q:=by
 obtain⟨v',w',hrun,h2,h3⟩:=run_append_any (P:=P) (w:=w) base (ty:=o.type) hE v n xs hown Bk A m c news hr h1 hroom hbase
 unfold Oper.wp execOp
 simp only[ho,resolve,invoke,builtin,Sem.run_bind,Sem.run_pure,Result.andThen_ok,List.map_toArray,List.map_cons,List.map_nil,hs,hx,hrun]
 exact h v' w' h2 h3
theorem wpList_append_any {ops:Array Oper} {rest:List Oper} {o:Oper} {a:Act} {Q:Exit→Act→World→Prop} (hgd:o.guard=none) (s x:Operand) {t:TypeId}
  (ho:o.op=.call { callee:=.builtin .append,args:=#[s,x],argTypes:=#[t,t] })
  (base:Nat) {e:TypeId} {size bytes:Nat} (hE:IsElem P t e size bytes)
  (v:Value) (n:Nat) (xs:List Value) (hs:a.eval s=v) (hown:w.ownsRow base e size v n xs)
  (Bk:Nat) (A:Option Addr) (m c:Nat) (news:List Value) (hx:a.eval x=.slice A m c) (hr:Reads w Bk size A m news) (h1:∀u∈news,u.oneCell'=true)
  (hroom:Room n m bytes) (hbase:base≤w.heap.size)
  (h:∀v' w',w'.ownsRow base e size v' (n+m) (xs++news)→Grows w w' v v'→wpList P ops Q rest (a.put o.dst v') w'):wpList P ops Q (o::rest) a w :=
 wpList_plain hgd fun _ hK=>wp_append_any s x ho base hE v n xs hs hown Bk A m c news hx hr h1 hroom hbase fun v' w' h2 h3=>hK _ _ (h v' w' h2 h3)
theorem wpList_push {ops:Array Oper} {rest:List Oper} {o:Oper} {a:Act} {Q:Exit→Act→World→Prop} (hgd:o.guard=none) (s x:Operand) {t:TypeId}
  (ho:o.op=.call { callee:=.builtin .append,args:=#[s,x],argTypes:=#[t,t] })
  (base:Nat) {e:TypeId} {bytes:Nat} (hE:IsElem P t e 1 bytes)
  (v:Value) (n:Nat) (xs:List Value) (hs:a.eval s=v) (w0:World) (u:Value) (e':TypeId) (hw:w=w0.alloc (.cells #[u] e')) (hown:w0.ownsRow base e 1 v n xs)
  (hx:a.eval x=.slice (some ⟨w0.heap.size,0,none⟩) 1 1) (h1:u.oneCell'=true)
  (hroom:Room n 1 bytes) (hbase:base≤w0.heap.size)
  (h:∀v' w',w'.ownsRow base e 1 v' (n+1) (xs++[u])→Grows w0 w' v v'→wpList P ops Q rest (a.put o.dst v') w'):wpList P ops Q (o::rest) a w:=by
 subst hw
 refine wpList_append_any hgd s x ho base hE v n xs hs (hown.alloc _) (w0.heap.size+1) _ 1 1 [u] hx (Reads.of_new w0 [u] e' 1 rfl) (by simpa using h1) hroom (by simp;omega) fun v' w' h2 h3=>h v' w' h2 h3.alloc_first
end
end Go.Proofs.YtpcanheghenhdaaGreat
namespace Go.Proofs.YtpcanheghenhdaaGreat
open Go.RowKit Go.ChangeShapes Go.WideShapes Go.Deep
def Opens {H:Type} (enc:TypeId×Value→H) (P:Program) (w:World) (e:TypeId) {α:Type} (dec:α→List Value) (ok:α→Prop):Prop :=
 ∀(spare:Nat→Bool) (held:Bool) (m:Nat) (cs:List Value) (y:DataW H×List MemPlace),DataW.trod enc P w 0 spare held m e cs=some y→(∀n∈y.1.weights P e,n≤reachBytes)→∃a:α,cs=dec a∧ok a
def OpensF {H:Type} (enc:TypeId×Value→H) (P:Program) (w:World) (fs:List Field) (off:Nat) {α:Type} (dec:α→List Value) (ok:α→Prop):Prop :=
 ∀(spare:Nat→Bool) (held:Bool) (m:Nat) (cs:List Value),cs.length=off+(fs.map fun f=>P.cellsOf f.type).sum→(∀f∈fs,∃y,DataW.trod enc P w 0 spare held m f.type ((cs.drop f.offset).take (P.cellsOf f.type))=some y∧∀n∈y.1.weights P f.type,n≤reachBytes)→∃a:α,cs.drop off=dec a∧ok a
section
variable {H:Type} {enc:TypeId×Value→H} {P:Program} {w:World}
theorem Opens.int {e:TypeId} {k:IntKind} (he:P.underlying e=some (.int k)):Opens enc P w e (fun n:Int=>[.int k n]) (fun n=>(Lit.int k n).wf=true):=by
 intro spare held m cs y h _
 obtain⟨n,rfl,_,hw⟩:=DataW.trod_int he h
 exact⟨n,rfl,hw⟩
theorem Opens.bool {e:TypeId} (he:P.underlying e=some .bool):Opens enc P w e (fun b:Bool=>[.bool b]) (fun _=>True):=by
 intro spare held m cs y h _
 obtain⟨b,rfl,_⟩:=DataW.trod_bool he h
 exact⟨b,rfl,trivial⟩
structure Sl (α:Type) where
 at_:Option Addr
 cap:Nat
 l:List α
def Sl.val {α:Type} (s:Sl α):Value:=.slice s.at_ s.l.length s.cap
theorem flatMap_get {α:Type} {dec:α→List Value} {size:Nat} (hd:∀a,(dec a).length=size):∀(ys:List α) (i j:Nat) (a:α),ys[i]?=some a→j<size→(ys.flatMap dec)[i*size+j]?=(dec a)[j]?:=by
 intro ys
 induction ys with
 | nil=>intro i j a h;simp at h
 | cons b r ih =>
  intro i j a h hj
  rw[List.flatMap_cons]
  cases i with
  | zero =>
   have:b=a:=by simpa using h
   subst this
   rw[Nat.zero_mul,Nat.zero_add,List.getElem?_append_left (by rw[hd];exact hj)]
  | succ i =>
   rw[List.getElem?_append_right (by rw[hd,Nat.succ_mul];omega),hd,show (i+1)*size+j-size=i*size+j from by rw[Nat.succ_mul];omega]
   exact ih i j a (by simpa using h) hj
theorem flatMap_len {α:Type} {dec:α→List Value} {size:Nat} (hd:∀a,(dec a).length=size) (ys:List α):(ys.flatMap dec).length=ys.length*size:=by
 induction ys with
 | nil=>simp
 | cons b r ih=>rw[List.flatMap_cons,List.length_append,hd,ih,List.length_cons,Nat.succ_mul];omega
structure Sl.Ok {α:Type} (w:World) (dec:α→List Value) (size bytes:Nat) (ok:α→Prop) (s:Sl α):Prop where
 reads:Reads w w.heap.size size s.at_ s.l.length (s.l.flatMap dec)
 len:s.l.length≤s.cap
 cap:s.cap≤maxLen
 reach:s.l.length*bytes≤140737488351232
 nil_:s.at_=none→s.l=[]∧s.cap=0
 all:∀a∈s.l,ok a
theorem weightsAll_mem {e:TypeId}:∀{ds:List (DataW H)} {d:DataW H},d∈ds→∀n∈d.weights P e,n∈DataW.weightsAll P e ds
 | [],d,h,_,_=>by simp at h
 | d0::r,d,h,n,hn=>by
  simp only[DataW.weightsAll,List.mem_append]
  rcases List.mem_cons.1 h with rfl|h
  ·exact .inl hn
  ·exact .inr (weightsAll_mem h n hn)
theorem Opens.slice {t e:TypeId} {α:Type} {dec:α→List Value} {ok:α→Prop} {size bytes:Nat} (ht:P.underlying t=some (.slice e)) (hC:P.cellsOf e=size) (hB:P.bytesOf e=bytes) (hpos:0<size) (hd:∀a,(dec a).length=size) (h:Opens enc P w e dec ok) :
  Opens enc P w t (fun s:Sl α=>[s.val]) (Sl.Ok w dec size bytes ok):=by
 intro spare held m cs y hy hw
 rcases open_slice ht hy with ⟨rfl,_⟩|⟨a,len,cap,k,n,D,Pl,rfl,_,hl,hm,hk,hyy,hi⟩
 ·exact⟨⟨none,0,[]⟩,rfl,⟨Reads.none_,Nat.le_refl _,by show 0≤maxLen;unfold maxLen;omega,by simp,fun _=>⟨rfl,rfl⟩,by simp⟩⟩
 ·have hkl:len≤k:=by rw[hk];split<;>omega
  have hreach:len*bytes≤140737488351232:=by
   have:=hw ((((List.range len).map D).length+((List.range (k-len)).map fun j=>D (len+j)).length)*P.bytesOf e) (by
    rw[hyy]
    simp only[DataW.weights,ht]
    exact List.mem_cons_self ..)
   rw[hB]at this
   simp only[List.length_map,List.length_range,reachBytes]at this
   exact Nat.le_trans (Nat.mul_le_mul_right _ (Nat.le_add_right _ _)) this
  have hel:∀i,i<len→∃b:α,(∀j,j<size→w.cell? (a.add (i*size+j))=(dec b)[j]?)∧ok b:=by
   intro i hi'
   obtain⟨cs',hc,ht'⟩:=hi i (by omega)
   rw[hC]at hc
   obtain⟨_,hlen,hcell⟩:=World.cells?_some hc
   obtain⟨b,rfl,hb⟩:=h spare held n cs' _ ht' (fun q hq=>hw q (by
    rw[hyy]
    simp only[DataW.weights,ht]
    refine List.mem_cons_of_mem _ (List.mem_append_left _ ?_)
    exact weightsAll_mem (List.mem_map.2 ⟨i,List.mem_range.2 hi',rfl⟩) q hq))
   exact⟨b,fun j hj=>by rw[←hcell j hj,add_of_add],hb⟩
  have hex:∃ys:List α,ys.length=len∧∀(i:Nat) (b:α),ys[i]?=some b→(∀j,j<size→w.cell? (a.add (i*size+j))=(dec b)[j]?)∧ok b:=by
   clear hi hl hm hk hkl hy h hyy hreach
   induction len with
   | zero=>exact⟨[],rfl,by simp⟩
   | succ len ih =>
    obtain⟨ys,h1,h2⟩:=ih (fun i hi'=>hel i (by omega))
    obtain⟨b,hb⟩:=hel len (by omega)
    refine⟨ys++[b],by simp[h1],fun i c hc=>?_⟩
    by_cases hil:i<ys.length
    ·rw[List.getElem?_append_left hil]at hc
     exact h2 i c hc
    ·rw[List.getElem?_append_right (by omega)]at hc
     have hi0:i-ys.length=0:=by
      have:=(List.getElem?_eq_some_iff.1 hc).1
      simp at this
      omega
     rw[hi0]at hc
     have:b=c:=by simpa using hc
     subst this
     rw[show i=len from by omega]
     exact hb
  obtain⟨ys,h1,h2⟩:=hex
  subst h1
  refine⟨⟨some a,cap,ys⟩,rfl,⟨⟨flatMap_len hd ys,fun hn=>⟨a,rfl,?_,fun j u hu=>?_⟩⟩,hl,hm,hreach,(fun h=>by cases h),fun b hb=>?_⟩⟩
  ·have hn':0<ys.length:=hn
   obtain⟨h3,_⟩:=h2 0 ys[0] (List.getElem?_eq_getElem hn')
   have h4:=h3 0 hpos
   have hlt:0<(dec ys[0]).length:=by rw[hd];exact hpos
   rw[List.getElem?_eq_getElem hlt]at h4
   have:=World.block_lt_of_cell? w _ h4
   rw[block_of_add]at this
   exact this
  ·have hj:j<ys.length*size:=by
    have:=(List.getElem?_eq_some_iff.1 hu).1
    rw[flatMap_len hd]at this
    exact this
   have hq:j/size<ys.length:=(Nat.div_lt_iff_lt_mul hpos).2 hj
   have hr:j%size<size:=Nat.mod_lt _ hpos
   have hjj:j/size*size+j%size=j:=by rw[Nat.mul_comm];exact Nat.div_add_mod j size
   obtain⟨h3,_⟩:=h2 _ _ (List.getElem?_eq_getElem hq)
   have h4:=h3 _ hr
   have h5:=flatMap_get hd ys _ _ _ (List.getElem?_eq_getElem hq) hr
   rw[hjj]at h4 h5
   rw[h4,←h5]
   exact hu
  ·obtain⟨i,hi',hb'⟩:=List.getElem_of_mem hb
   exact(h2 i b (by rw[List.getElem?_eq_getElem hi',hb'])).2
theorem OpensF.nil {off:Nat}:OpensF enc P w [] off (fun _:Unit=>[]) (fun _=>True):=by
 intro spare held m cs hl _
 exact⟨(),by simp at hl;simp[hl],trivial⟩
theorem OpensF.cons {f:Field} {fs:List Field} {off k:Nat} {α β:Type} {dec:α→List Value} {ok:α→Prop} {dec':β→List Value} {ok':β→Prop} (ho:f.offset=off) (hk:P.cellsOf f.type=k)
  (h:Opens enc P w f.type dec ok) (hs:OpensF enc P w fs (off+k) dec' ok'):OpensF enc P w (f::fs) off (fun p:α×β=>dec p.1++dec' p.2) (fun p=>ok p.1∧ok' p.2):=by
 intro spare held m cs hl hall
 obtain⟨y,hy,hyw⟩:=hall f (by simp)
 obtain⟨a,ha,hoka⟩:=h spare held m _ y hy hyw
 obtain⟨b,hb,hokb⟩:=hs spare held m cs (by rw[hl,List.map_cons,List.sum_cons,hk];omega) (fun g hg=>hall g (by simp[hg]))
 refine⟨(a,b),?_,hoka,hokb⟩
 simp only
 rw[←ha,←hb,ho,hk,←List.drop_drop,List.take_append_drop]
theorem Opens.struct {t:TypeId} {fs:Array Field} {α:Type} {dec:α→List Value} {ok:α→Prop} (ht:P.underlying t=some (.struct fs)) (hC:P.cellsOf t=(fs.toList.map fun f=>P.cellsOf f.type).sum)
  (h:OpensF enc P w fs.toList 0 dec ok):Opens enc P w t dec ok:=by
 intro spare held m cs y hy hw
 obtain⟨xs,n,_,hyy,hlen,hxs,hf⟩:=DataW.trod_struct ht hy
 obtain⟨a,ha,hok⟩:=h spare held n cs (by rw[hlen,hC,Nat.zero_add]) (fun f hf'=>by
  obtain⟨i,hi,hif⟩:=List.getElem_of_mem hf'
  have hi':i<fs.size:=by simpa using hi
  have h1:=hf i f (by rw[Array.getElem?_eq_getElem hi'];simpa using hif)
  have h2:i<xs.length:=by omega
  refine⟨xs[i],by rw[h1,List.getElem?_eq_getElem h2],fun q hq=>hw q ?_⟩
  rw[hyy]
  simp only[DataW.weights,ht]
  refine DataW.weights_mem_each (j:=i) (t:=f.type) (d:=(xs[i]).1) ?_ ?_ q hq
  ·rw[List.getElem?_map,Array.getElem?_toList,Array.getElem?_eq_getElem hi']
   simp only[Option.map_some,Option.some.injEq]
   rw[show fs[i]=f from by simpa using hif]
  ·rw[List.getElem?_map,List.getElem?_eq_getElem h2]
   rfl)
 exact⟨a,by simpa using ha,hok⟩
end
end Go.Proofs.YtpcanheghenhdaaGreat
namespace Go.Proofs.YtpcanheghenhdaaGreat
open Go.RowKit
def byD (n:Int):List Value:=[.int .u8 n]
def byOk (n:Int):Prop:=(Lit.int .u8 n).wf=true
abbrev RIA:=Int×Int×Int×Int×Sl Int×Unit
def wdD (n:Int):List Value:=[.int .u64 n]
def wdOk (n:Int):Prop:=(Lit.int .u64 n).wf=true
def nmD (n:Int):List Value:=[.int .i64 n]
def nmOk (n:Int):Prop:=(Lit.int .i64 n).wf=true
def riaD (x:RIA):List Value:=[.int .i64 x.1]++([.int .u64 x.2.1]++([.int .u64 x.2.2.1]++([.int .i64 x.2.2.2.1]++([x.2.2.2.2.1.val]++[]))))
def riaOk (w:World) (x:RIA):Prop:=(Lit.int .i64 x.1).wf=true∧(Lit.int .u64 x.2.1).wf=true∧(Lit.int .u64 x.2.2.1).wf=true∧(Lit.int .i64 x.2.2.2.1).wf=true∧x.2.2.2.2.1.Ok w wdD 1 8 wdOk∧True
abbrev SgA:=Sl Int×Sl Int×Unit
def sgD (x:SgA):List Value:=[x.1.val]++([x.2.1.val]++[])
def sgOk (w:World) (x:SgA):Prop:=x.1.Ok w byD 1 1 byOk∧x.2.1.Ok w byD 1 1 byOk∧True
abbrev ImA:=ByteArray×ByteArray×Int×Unit
def imD (x:ImA):List Value:=[.string x.1]++([.string x.2.1]++([.int .i64 x.2.2.1]++[]))
def imOk (x:ImA):Prop:=x.1.size≤140737488351232∧x.2.1.size≤140737488351232∧(Lit.int .i64 x.2.2.1).wf=true∧True
abbrev BdA:=Sl Int×Sl RIA×Unit
def bdD (x:BdA):List Value:=[x.1.val]++([x.2.1.val]++[])
def bdOk (w:World) (x:BdA):Prop:=x.1.Ok w byD 1 1 byOk∧x.2.1.Ok w riaD 5 56 (riaOk w)∧True
abbrev FnA:=Int×BdA×Unit
def fnD (x:FnA):List Value:=[.int .i64 x.1]++(bdD x.2.1++[])
def fnOk (w:World) (x:FnA):Prop:=(Lit.int .i64 x.1).wf=true∧bdOk w x.2.1∧True
abbrev LmA:=Int×Int×Bool×Unit
def lmD (x:LmA):List Value:=[.int .i64 x.1]++([.int .i64 x.2.1]++([.bool x.2.2.1]++[]))
def lmOk (x:LmA):Prop:=(Lit.int .i64 x.1).wf=true∧(Lit.int .i64 x.2.1).wf=true∧True∧True
abbrev GlA:=Int×Bool×Int×Unit
def glD (x:GlA):List Value:=[.int .u8 x.1]++([.bool x.2.1]++([.int .u64 x.2.2.1]++[]))
def glOk (x:GlA):Prop:=(Lit.int .u8 x.1).wf=true∧True∧(Lit.int .u64 x.2.2.1).wf=true∧True
abbrev ExA:=ByteArray×Int×Int×Unit
def exD (x:ExA):List Value:=[.string x.1]++([.int .i64 x.2.1]++([.int .i64 x.2.2.1]++[]))
def exOk (x:ExA):Prop:=x.1.size≤140737488351232∧(Lit.int .i64 x.2.1).wf=true∧(Lit.int .i64 x.2.2.1).wf=true∧True
abbrev ElA:=Int×Sl Int×Unit
def elD (x:ElA):List Value:=[.int .u64 x.1]++([x.2.1.val]++[])
def elOk (w:World) (x:ElA):Prop:=(Lit.int .u64 x.1).wf=true∧x.2.1.Ok w nmD 1 8 nmOk∧True
abbrev DtA:=Int×Int×Sl Int×Unit
def dtD (x:DtA):List Value:=[.int .i64 x.1]++([.int .u64 x.2.1]++([x.2.2.1.val]++[]))
def dtOk (w:World) (x:DtA):Prop:=(Lit.int .i64 x.1).wf=true∧(Lit.int .u64 x.2.1).wf=true∧x.2.2.1.Ok w byD 1 1 byOk∧True
abbrev MoA:=Sl SgA×Sl ImA×Sl FnA×Int×Sl LmA×Sl GlA×Sl ExA×Int×Sl ElA×Sl DtA×Unit
def moD (x:MoA):List Value:=[x.1.val]++([x.2.1.val]++([x.2.2.1.val]++([.int .i64 x.2.2.2.1]++([x.2.2.2.2.1.val]++([x.2.2.2.2.2.1.val]++([x.2.2.2.2.2.2.1.val]++([.int .i64 x.2.2.2.2.2.2.2.1]++([x.2.2.2.2.2.2.2.2.1.val]++([x.2.2.2.2.2.2.2.2.2.1.val]++[])))))))))
def moOk (w:World) (x:MoA):Prop:=x.1.Ok w sgD 2 48 (sgOk w)∧x.2.1.Ok w imD 3 40 imOk∧x.2.2.1.Ok w fnD 3 56 (fnOk w)∧(Lit.int .i64 x.2.2.2.1).wf=true∧x.2.2.2.2.1.Ok w lmD 3 24 lmOk∧x.2.2.2.2.2.1.Ok w glD 3 16 glOk∧x.2.2.2.2.2.2.1.Ok w exD 3 32 exOk∧(Lit.int .i64 x.2.2.2.2.2.2.2.1).wf=true∧x.2.2.2.2.2.2.2.2.1.Ok w elD 2 32 (elOk w)∧x.2.2.2.2.2.2.2.2.2.1.Ok w dtD 3 40 (dtOk w)∧True
section
variable {H:Type} {enc:TypeId×Value→H} {w:World}
set_option maxRecDepth 100000
theorem strR_opens {P:Program} {e:TypeId} (he:P.underlying e=some .string):Opens enc P w e (fun s:ByteArray=>[.string s]) (fun s=>s.size≤140737488351232):=by
 intro spare held m cs y h hw
 obtain⟨s,rfl,hy,hs⟩:=DataW.trod_string he h
 refine⟨s,rfl,?_⟩
 have:=hw s.size (by rw[hy];simp[DataW.weights])
 simpa [reachBytes]using this
theorem by_opens:Opens enc Tryz.prog w 34 (fun s:Sl Int=>[s.val]) (Sl.Ok w byD 1 1 byOk) :=
 Opens.slice Tryz.underlying34 (by kernel_rfl) (by kernel_rfl) (by omega) (fun _=>rfl) (Opens.int Tryz.underlying5)
theorem sg_opens:Opens enc Tryz.prog w 22 (fun s:Sl SgA=>[s.val]) (Sl.Ok w sgD 2 48 (sgOk w)) :=
 Opens.slice Tryz.underlying22 (by kernel_rfl) (by kernel_rfl) (by omega) (fun _=>rfl)
  (Opens.struct Tryz.underlying94 (by kernel_rfl) (OpensF.cons (k:=1) (dec:=fun s:Sl Int=>[s.val]) (ok:=Sl.Ok w byD 1 1 byOk) rfl (by kernel_rfl) (by exact by_opens) (OpensF.cons (k:=1) (dec:=fun s:Sl Int=>[s.val]) (ok:=Sl.Ok w byD 1 1 byOk) rfl (by kernel_rfl) (by exact by_opens) OpensF.nil)))
theorem im_opens:Opens enc Tryz.prog w 23 (fun s:Sl ImA=>[s.val]) (Sl.Ok w imD 3 40 imOk) :=
 Opens.slice Tryz.underlying23 (by kernel_rfl) (by kernel_rfl) (by omega) (fun _=>rfl)
  (Opens.struct Tryz.underlying96 (by kernel_rfl) (OpensF.cons (k:=1) rfl (by kernel_rfl) (strR_opens Tryz.underlying9) (OpensF.cons (k:=1) rfl (by kernel_rfl) (strR_opens Tryz.underlying9) (OpensF.cons (k:=1) rfl (by kernel_rfl) (Opens.int Tryz.underlying3) OpensF.nil))))
theorem ria_opens:Opens enc Tryz.prog w 35 (fun s:Sl RIA=>[s.val]) (Sl.Ok w riaD 5 56 (riaOk w)) :=
 Opens.slice Tryz.underlying35 (by kernel_rfl) (by kernel_rfl) (by omega) (fun _=>rfl)
  (Opens.struct Tryz.underlying45 (by kernel_rfl) (OpensF.cons (k:=1) rfl (by kernel_rfl) (Opens.int Tryz.underlying3) (OpensF.cons (k:=1) rfl (by kernel_rfl) (Opens.int Tryz.underlying42) (OpensF.cons (k:=1) rfl (by kernel_rfl) (Opens.int Tryz.underlying42)
   (OpensF.cons (k:=1) rfl (by kernel_rfl) (Opens.int Tryz.underlying3) (OpensF.cons (k:=1) rfl (by kernel_rfl) (Opens.slice (size:=1) (bytes:=8) Tryz.underlying43 (by kernel_rfl) (by kernel_rfl) (by omega) (fun _=>rfl) (Opens.int Tryz.underlying42)) OpensF.nil))))))
theorem bd_opens:Opens enc Tryz.prog w 37 bdD (bdOk w) :=
 Opens.struct Tryz.underlying37 (by kernel_rfl) (OpensF.cons (k:=1) (dec:=fun s:Sl Int=>[s.val]) (ok:=Sl.Ok w byD 1 1 byOk) rfl (by kernel_rfl) (by exact by_opens) (OpensF.cons (k:=1) (dec:=fun s:Sl RIA=>[s.val]) (ok:=Sl.Ok w riaD 5 56 (riaOk w)) rfl (by kernel_rfl) (by exact ria_opens) OpensF.nil))
theorem fn_opens:Opens enc Tryz.prog w 24 (fun s:Sl FnA=>[s.val]) (Sl.Ok w fnD 3 56 (fnOk w)) :=
 Opens.slice Tryz.underlying24 (by kernel_rfl) (by kernel_rfl) (by omega) (fun _=>rfl)
  (Opens.struct Tryz.underlying39 (by kernel_rfl) (OpensF.cons (k:=1) rfl (by kernel_rfl) (Opens.int Tryz.underlying3) (OpensF.cons (k:=2) (dec:=bdD) (ok:=bdOk w) rfl (by kernel_rfl) (by exact bd_opens) OpensF.nil)))
theorem lm_opens:Opens enc Tryz.prog w 25 (fun s:Sl LmA=>[s.val]) (Sl.Ok w lmD 3 24 lmOk) :=
 Opens.slice Tryz.underlying25 (by kernel_rfl) (by kernel_rfl) (by omega) (fun _=>rfl)
  (Opens.struct Tryz.underlying154 (by kernel_rfl) (OpensF.cons (k:=1) rfl (by kernel_rfl) (Opens.int Tryz.underlying3) (OpensF.cons (k:=1) rfl (by kernel_rfl) (Opens.int Tryz.underlying3) (OpensF.cons (k:=1) rfl (by kernel_rfl) (Opens.bool Tryz.underlying4) OpensF.nil))))
theorem gl_opens:Opens enc Tryz.prog w 26 (fun s:Sl GlA=>[s.val]) (Sl.Ok w glD 3 16 glOk) :=
 Opens.slice Tryz.underlying26 (by kernel_rfl) (by kernel_rfl) (by omega) (fun _=>rfl)
  (Opens.struct Tryz.underlying156 (by kernel_rfl) (OpensF.cons (k:=1) rfl (by kernel_rfl) (Opens.int Tryz.underlying57) (OpensF.cons (k:=1) rfl (by kernel_rfl) (Opens.bool Tryz.underlying4) (OpensF.cons (k:=1) rfl (by kernel_rfl) (Opens.int Tryz.underlying42) OpensF.nil))))
theorem ex_opens:Opens enc Tryz.prog w 27 (fun s:Sl ExA=>[s.val]) (Sl.Ok w exD 3 32 exOk) :=
 Opens.slice Tryz.underlying27 (by kernel_rfl) (by kernel_rfl) (by omega) (fun _=>rfl)
  (Opens.struct Tryz.underlying99 (by kernel_rfl) (OpensF.cons (k:=1) rfl (by kernel_rfl) (strR_opens Tryz.underlying9) (OpensF.cons (k:=1) rfl (by kernel_rfl) (Opens.int Tryz.underlying3) (OpensF.cons (k:=1) rfl (by kernel_rfl) (Opens.int Tryz.underlying3) OpensF.nil))))
theorem el_opens:Opens enc Tryz.prog w 28 (fun s:Sl ElA=>[s.val]) (Sl.Ok w elD 2 32 (elOk w)) :=
 Opens.slice Tryz.underlying28 (by kernel_rfl) (by kernel_rfl) (by omega) (fun _=>rfl)
  (Opens.struct Tryz.underlying101 (by kernel_rfl) (OpensF.cons (k:=1) rfl (by kernel_rfl) (Opens.int Tryz.underlying42) (OpensF.cons (k:=1) rfl (by kernel_rfl) (Opens.slice (size:=1) (bytes:=8) Tryz.underlying53 (by kernel_rfl) (by kernel_rfl) (by omega) (fun _=>rfl) (Opens.int Tryz.underlying3)) OpensF.nil)))
theorem dt_opens:Opens enc Tryz.prog w 29 (fun s:Sl DtA=>[s.val]) (Sl.Ok w dtD 3 40 (dtOk w)) :=
 Opens.slice Tryz.underlying29 (by kernel_rfl) (by kernel_rfl) (by omega) (fun _=>rfl)
  (Opens.struct Tryz.underlying103 (by kernel_rfl) (OpensF.cons (k:=1) rfl (by kernel_rfl) (Opens.int Tryz.underlying3) (OpensF.cons (k:=1) rfl (by kernel_rfl) (Opens.int Tryz.underlying42) (OpensF.cons (k:=1) (dec:=fun s:Sl Int=>[s.val]) (ok:=Sl.Ok w byD 1 1 byOk) rfl (by kernel_rfl) (by exact by_opens) OpensF.nil))))
theorem mo_opens:Opens enc Tryz.prog w 31 moD (moOk w) :=
 Opens.struct Tryz.underlying31 (by kernel_rfl) (OpensF.cons (k:=1) (dec:=fun s:Sl SgA=>[s.val]) (ok:=Sl.Ok w sgD 2 48 (sgOk w)) rfl (by kernel_rfl) (by exact sg_opens) (OpensF.cons (k:=1) (dec:=fun s:Sl ImA=>[s.val]) (ok:=Sl.Ok w imD 3 40 imOk) rfl (by kernel_rfl) (by exact im_opens) (OpensF.cons (k:=1) (dec:=fun s:Sl FnA=>[s.val]) (ok:=Sl.Ok w fnD 3 56 (fnOk w)) rfl (by kernel_rfl) (by exact fn_opens) (OpensF.cons (k:=1) rfl (by kernel_rfl) (Opens.int Tryz.underlying3)
  (OpensF.cons (k:=1) (dec:=fun s:Sl LmA=>[s.val]) (ok:=Sl.Ok w lmD 3 24 lmOk) rfl (by kernel_rfl) (by exact lm_opens) (OpensF.cons (k:=1) (dec:=fun s:Sl GlA=>[s.val]) (ok:=Sl.Ok w glD 3 16 glOk) rfl (by kernel_rfl) (by exact gl_opens) (OpensF.cons (k:=1) (dec:=fun s:Sl ExA=>[s.val]) (ok:=Sl.Ok w exD 3 32 exOk) rfl (by kernel_rfl) (by exact ex_opens) (OpensF.cons (k:=1) rfl (by kernel_rfl) (Opens.int Tryz.underlying3) (OpensF.cons (k:=1) (dec:=fun s:Sl ElA=>[s.val]) (ok:=Sl.Ok w elD 2 32 (elOk w)) rfl (by kernel_rfl) (by exact el_opens) (OpensF.cons (k:=1) (dec:=fun s:Sl DtA=>[s.val]) (ok:=Sl.Ok w dtD 3 40 (dtOk w)) rfl (by kernel_rfl) (by exact dt_opens) OpensF.nil))))))))))
end
end Go.Proofs.YtpcanheghenhdaaGreat
