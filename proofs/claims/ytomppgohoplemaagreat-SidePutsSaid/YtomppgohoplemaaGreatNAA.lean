import Derived.WalkKit
import Derived.WalkSpells
import Derived.WalkLawsBesides
import Derived.Lib.Hide
import Derived.Maps.AppendAt
import Derived.Deep.AppendLies
import Derived.Deep.Draws
import Derived.Laws.OwnMore
namespace Go.Proofs.YtomppgohoplemaaGreat
open Go.RowKit
theorem hide {p:Prop} (h:p):Hid p:=h
theorem ret_int {k:IntKind} {a b:Int} (h:a=b):Ending.returned (.int k a)=.returned (.int k b):=by rw[h]
theorem int_congr {k:IntKind} {a b:Int} (h:a=b):Value.int k a=Value.int k b:=by rw[h]
theorem results_tmp4 {fn:Func} {t u v x:Tmp} (h:fn.results=#[.tmp t,.tmp u,.tmp v,.tmp x]) (tmps:Array Value) (P:Program) (w:World) :
  (results fn tmps).run P w=.ok (.tuple #[tmps.getD t undef,tmps.getD u undef,tmps.getD v undef,tmps.getD x undef]) w:=by simp[results,h]
theorem tup2 {a b a' b':Value} (h1:a=a') (h2:b=b'):Ending.returned (.tuple #[a,b])=.returned (.tuple #[a',b']):=by rw[h1,h2]
def B (b:UInt8):Value:=.int .u8 (b.toNat:Int)
theorem B_ofNat (n:Nat) (h:n<256):Value.int .u8 (n:Int)=B (UInt8.ofNat n):=by
 unfold B
 have:(UInt8.ofNat n).toNat=n:=by simp[UInt8.toNat_ofNat'];omega
 rw[this]
theorem B_map_one (bs:List UInt8):∀u∈bs.map B,u.oneCell'=true:=by
 intro u hu;obtain⟨b,_,rfl⟩:=List.mem_map.1 hu;rfl
theorem block_of_add (a:Addr) (n:Nat):(a.add n).block=a.block:=by unfold Addr.add;split<;>rfl
theorem add_of_add (a:Addr) (i j:Nat):(a.add i).add j=a.add (i+j):=by
 unfold Addr.add
 by_cases hi:i=0<;>by_cases hj:j=0<;>simp[hi,hj,Nat.add_assoc]
def Reads (w:World) (Bk size:Nat) (A:Option Addr) (n:Nat) (xs:List Value):Prop :=
 xs.length=n*size∧(0<n→∃ad,A=some ad∧ad.block<Bk∧∀j u,xs[j]?=some u→w.cell? (ad.add j)=some u)
section
variable {w w':World} {Bk Bk' size n:Nat} {A:Option Addr} {xs:List Value}
theorem Reads.none_:Reads w Bk size A 0 []:=⟨by simp,fun h=>absurd h (by omega)⟩
theorem Reads.at_ {k:Nat} (h:Reads w Bk 1 A n xs) (hk:k<n):∃ad u,A=some ad∧ad.block<Bk∧xs[k]?=some u∧w.cell? (ad.add k)=some u:=by
 obtain⟨ad,e,hb,hc⟩:=h.2 (by omega)
 have hl:k<xs.length:=by have:=h.1;omega
 exact⟨ad,xs[k],e,hb,List.getElem?_eq_getElem hl,hc k _ (List.getElem?_eq_getElem hl)⟩
theorem Reads.elem {α:Type} {f:α→Value} {ys:List α} {k:Nat} (h:Reads w Bk 1 A ys.length (ys.map f)) (hk:k<ys.length) :
  ∃(ad:Addr) (c:α),A=some ad∧Hid (ys[k]?=some c)∧w.cell? (ad.add k)=some (f c):=by
 obtain⟨ad,u,h1,_,h2,h3⟩:=h.at_ hk
 refine⟨ad,ys[k],h1,List.getElem?_eq_getElem hk,?_⟩
 rw[h3]
 rw[List.getElem?_map,List.getElem?_eq_getElem hk]at h2
 exact h2.symm
theorem Reads.byte {bs:List UInt8} {k:Nat} (h:Reads w Bk 1 A bs.length (bs.map B)) (hk:k<bs.length) :
  ∃(ad:Addr) (c:UInt8),A=some ad∧Hid (bs[k]?=some c)∧w.cell? (ad.add k)=some (.int .u8 (c.toNat:Int))∧(0:Int)≤(c.toNat:Int)∧(c.toNat:Int)≤255:=by
 obtain⟨ad,c,h1,h2,h3⟩:=h.elem hk
 have:=c.toNat_lt
 exact⟨ad,c,h1,h2,h3,by omega,by omega⟩
theorem Reads.keep (h:Reads w Bk size A n xs) (hk:∀p:Addr,p.block<Bk→w'.cell? p=w.cell? p):Reads w' Bk size A n xs :=
 ⟨h.1,fun hn=>by
  obtain⟨ad,e,hb,hc⟩:=h.2 hn
  exact⟨ad,e,hb,fun j u hu=>(hk _ (by rw[block_of_add];exact hb)).trans (hc j u hu)⟩⟩
theorem Reads.more (h:Reads w Bk size A n xs) (hB:Bk≤Bk'):Reads w Bk' size A n xs :=
 ⟨h.1,fun hn=>by
  obtain⟨ad,e,hb,hc⟩:=h.2 hn
  exact⟨ad,e,by omega,hc⟩⟩
theorem Reads.below (h:Reads w Bk size A n xs) (hb:Below Bk w w'):Reads w' Bk size A n xs:=h.keep fun _ hp=>hb.cell hp
theorem Reads.drew (h:Reads w Bk size A n xs):Reads w.drew Bk size A n xs:=h
theorem Reads.drewN (h:Reads w Bk size A n xs) (k:Nat):Reads (w.drewN k) Bk size A n xs:=h
theorem Reads.alloc (h:Reads w Bk size A n xs) (hB:Bk≤w.heap.size) (o:Obj):Reads (w.alloc o) Bk size A n xs:=h.keep fun p hp=>World.cell?_alloc_lt w o p (by omega)
theorem Reads.setCell (h:Reads w Bk size A n xs) {p:Addr} (hB:Bk≤p.block) (u:Value):Reads (w.setCell p u) Bk size A n xs :=
 h.keep fun q hq=>World.cell?_setCell_other w p q u (fun e=>by subst e;omega)
theorem Reads.grown (h:Reads w Bk size A n xs) {row:Option Nat} (hg:w.grownBy w' row) (hB:Bk≤w.heap.size) (hr:∀g,row=some g→Bk≤g):Reads w' Bk size A n xs :=
 h.keep fun p hp=>World.cell?_of_block (hg.block p.block (by omega) (fun e=>by have:=hr _ e.symm;omega))
theorem Reads.cut (h:Reads w Bk size A n xs) {k cap:Nat} (hk:k≤n) (hc:n≤cap) :
  Reads w Bk size (if cap=k then A else A.map (·.add (k*size))) (n-k) (xs.drop (k*size)):=by
 refine⟨by rw[List.length_drop,h.1,Nat.sub_mul],fun hn=>?_⟩
 obtain⟨ad,rfl,hb,hcell⟩:=h.2 (by omega)
 rw[if_neg (by omega)]
 refine⟨ad.add (k*size),rfl,by rw[block_of_add];exact hb,fun j u hu=>?_⟩
 rw[add_of_add]
 exact hcell _ u (by rw[←hu,List.getElem?_drop])
theorem Reads.upto (h:Reads w Bk size A n xs) {k:Nat} (hk:k≤n):Reads w Bk size A k (xs.take (k*size)):=by
 refine⟨by rw[List.length_take,h.1,Nat.min_eq_left (Nat.mul_le_mul_right _ hk)],fun hn=>?_⟩
 obtain⟨ad,rfl,hb,hcell⟩:=h.2 (by omega)
 refine⟨ad,rfl,hb,fun j u hu=>hcell j u ?_⟩
 rw[List.getElem?_take]at hu
 split at hu
 ·exact hu
 ·cases hu
theorem Reads.of_own {base:Nat} {e:TypeId} {c:Nat} (h:w.ownsRow base e size (.slice A n c) n xs):Reads w w.heap.size size A n xs:=by
 refine⟨h.1,fun hn=>?_⟩
 obtain⟨g,cap,hv,_,hlt⟩:=h.form hn
 have hA:A=some ⟨g,0,none⟩:=by injection hv
 subst hA
 exact⟨_,rfl,hlt,h.cells (g:=g) rfl⟩
theorem Reads.of_new (w:World) (cs:List Value) (e:TypeId) (n:Nat) (hn:cs.length=n):Reads (w.alloc (.cells cs.toArray e)) (w.heap.size+1) 1 (some ⟨w.heap.size,0,none⟩) n cs:=by
 refine⟨by omega,fun _=>⟨_,rfl,by simp,fun j u hu=>?_⟩⟩
 have hadd:(⟨w.heap.size,0,none⟩:Addr).add j=⟨w.heap.size,j,none⟩:=by unfold Addr.add;split<;>simp_all
 rw[hadd,cell_of_row (w.alloc (.cells cs.toArray e)) w.heap.size j cs.toArray e (0,0) (heap_alloc_new w _)]
 simpa using hu
end
theorem own_form {w:World} {base:Nat} {e:TypeId} {size n:Nat} {v:Value} {xs:List Value} (h:w.ownsRow base e size v n xs):∃A c,v=.slice A n c∧n≤c∧c≤maxLen:=by
 rcases h.2 with ⟨rfl,rfl⟩|⟨g,cap,cur,rfl,_,_,h1,h2,_⟩
 ·exact⟨none,0,rfl,Nat.le_refl _,by unfold maxLen;omega⟩
 ·exact⟨_,_,rfl,h1,h2⟩
structure Grows (w w':World) (v v':Value):Prop where
 by_:w.grownBy w' v.ownBlock
 lies:v'.ownBlock=v.ownBlock∨∃g,v'.ownBlock=some g∧w.heap.size≤g
theorem Grows.refl (w:World) (v:Value):Grows w w v v:=⟨⟨rfl,rfl,rfl,Nat.le_refl _,fun _ _ _=>rfl⟩,.inl rfl⟩
theorem Grows.trans {w w1 w2:World} {v v1 v2:Value} (h:Grows w w1 v v1) (k:Grows w1 w2 v1 v2):Grows w w2 v v2:=by
 refine⟨⟨k.by_.os.trans h.by_.os,k.by_.tape.trans h.by_.tape,k.by_.output.trans h.by_.output,Nat.le_trans h.by_.size k.by_.size,fun i hi hne=>?_⟩,?_⟩
 ·refine(k.by_.block i (Nat.lt_of_lt_of_le hi h.by_.size) ?_).trans (h.by_.block i hi hne)
  rcases h.lies with e|⟨g,e,hg⟩
  ·rw[e];exact hne
  ·rw[e];intro hh;injection hh with hh;omega
 ·rcases k.lies with e|⟨g,e,hg⟩
  ·rw[e];exact h.lies
  ·exact .inr ⟨g,e,Nat.le_trans h.by_.size hg⟩
theorem Grows.alloc_first {w w':World} {v v':Value} {o:Obj} (h:Grows (w.alloc o) w' v v'):Grows w w' v v':=by
 refine⟨⟨h.by_.os,h.by_.tape,h.by_.output,Nat.le_trans (by simp) h.by_.size,fun i hi hne=>(h.by_.block i (by simp;omega) hne).trans (Below.heap_alloc w o i hi)⟩,?_⟩
 rcases h.lies with e|⟨g,e,hg⟩
 ·exact .inl e
 ·exact .inr ⟨g,e,by simp at hg;omega⟩
theorem Grows.below {w w':World} {v v':Value} (h:Grows w w' v v') {Bk:Nat} (hB:Bk≤w.heap.size) (hv:∀g,v.ownBlock=some g→Bk≤g):Below Bk w w' :=
 (Below.refl _ _).grown h.by_ hB hv
theorem Grows.below' {a w w':World} {v v':Value} (h:Grows w w' v v') {Bk:Nat} (ha:Below Bk a w) (hB:Bk≤w.heap.size) (hv:∀g,v.ownBlock=some g→Bk≤g):Below Bk a w' :=
 ha.grown h.by_ hB hv
theorem Grows.of_below {w w':World} {v:Value} (h:Below w.heap.size w w'):Grows w w' v v:=⟨⟨h.os,h.tape,h.output,h.size,fun i hi _=>h.block i hi⟩,.inl rfl⟩
theorem own_ge {w:World} {base:Nat} {e:TypeId} {size n:Nat} {v:Value} {xs:List Value} (h:w.ownsRow base e size v n xs):∀g,v.ownBlock=some g→base≤g:=fun g hg=>(h.lt g hg).1
theorem own_nil (w:World) (base:Nat) (e:TypeId) (size:Nat):w.ownsRow base e size (.slice none 0 0) 0 []:=⟨by simp,.inl ⟨rfl,rfl⟩⟩
theorem own_cast {w:World} {base:Nat} {e:TypeId} {size n n':Nat} {v:Value} {xs xs':List Value} (h:w.ownsRow base e size v n xs) (hn:n=n') (hx:xs=xs'):w.ownsRow base e size v n' xs':=by subst hn;subst hx;exact h
theorem own_base {w:World} {base base':Nat} {e:TypeId} {size n:Nat} {v:Value} {xs:List Value} (h:w.ownsRow base e size v n xs) (hb:∀g,v.ownBlock=some g→base'≤g):w.ownsRow base' e size v n xs:=by
 refine⟨h.1,?_⟩
 rcases h.2 with hn|⟨g,cap,cur,rfl,_,rest⟩
 ·exact .inl hn
 ·exact .inr ⟨g,cap,cur,rfl,hb g rfl,rest⟩
def IsElem (P:Program) (t e:TypeId) (size bytes:Nat):Prop :=
 P.underlying t=some (.slice e)∧∃i z,P.info? e=some i∧i.zero=some z∧i.size=size∧i.bytes=bytes∧z.cells.size=size∧0<size
theorem IsElem.mk' {P:Program} {t e:TypeId} {z:Value} {size bytes:Nat} (ht:P.underlying t=some (.slice e)) (hi:(P.info? e).map (fun i=>(i.zero,i.size,i.bytes))=some (some z,size,bytes)) (hz:z.cells.size=size) (hs:0<size):IsElem P t e size bytes:=by
 refine⟨ht,?_⟩
 cases h:P.info? e with
 | none=>rw[h]at hi;cases hi
 | some i =>
  rw[h]at hi
  simp only[Option.map_some,Option.some.injEq,Prod.mk.injEq]at hi
  exact⟨i,z,rfl,hi.1,hi.2.1,hi.2.2,hz,hs⟩
def Room (n m bytes:Nat):Prop:=n+m≤maxLen∧(n+m)*bytes≤140737488355328
theorem room_of {n m bytes:Nat} (h:n+m≤2000000000) (hb:bytes≤1000):Room n m bytes:=by
 refine⟨by unfold maxLen;omega,?_⟩
 have:=Nat.mul_le_mul h hb
 omega
section
variable {P:Program} {w:World}
theorem run_append_of_nil (base:Nat) (t ty e:TypeId) (i:TypeInfo) (size:Nat) (ht:P.underlying t=some (.slice e)) (hi:P.info? e=some i)
  (v:Value) (n:Nat) (xs:List Value) (hown:w.ownsRow base e size v n xs) (c:Nat):(Builtin.append_ #[t,t] ty #[v,.slice none 0 c]).run P w=.ok v w:=by
 rcases hown.2 with ⟨rfl,rfl⟩|⟨g,cap,cur,rfl,_,_,hnc,_⟩
 ·simp[Builtin.append_,run_underlying ht,sizeOf,typeInfo,hi,Builtin.lenOf,Builtin.firstCells]
 ·simp[Builtin.append_,run_underlying ht,sizeOf,typeInfo,hi,Builtin.lenOf,Builtin.firstCells,hnc,storeCells]
theorem run_append_any (base:Nat) {t ty e:TypeId} {size bytes:Nat} (hE:IsElem P t e size bytes)
  (v:Value) (n:Nat) (xs:List Value) (hown:w.ownsRow base e size v n xs)
  (Bk:Nat) (A:Option Addr) (m c:Nat) (news:List Value) (hr:Reads w Bk size A m news) (h1:∀u∈news,u.oneCell'=true)
  (hroom:Room n m bytes) (hbase:base≤w.heap.size) :
  ∃v' w',(Builtin.append_ #[t,t] ty #[v,.slice A m c]).run P w=.ok v' w'∧w'.ownsRow base e size v' (n+m) (xs++news)∧Grows w w' v v':=by
 obtain⟨ht,i,z,hi,hz,hsize,hby,hzs,hsz⟩:=hE
 rcases A with _|ad
 ·have hm:m=0:=by
   rcases Nat.eq_zero_or_pos m with h0|h0
   ·exact h0
   ·obtain⟨ad,h,_⟩:=hr.2 h0
    cases h
  subst hm
  have hn:news=[]:=List.eq_nil_of_length_eq_zero (by simpa using hr.1)
  subst hn
  exact⟨v,w,run_append_of_nil base t ty e i size ht hi v n xs hown c,by simpa using hown,Grows.refl _ _⟩
 ·have hcells:∀j u,news[j]?=some u→w.cell? (ad.add j)=some u:=by
   intro j u hu
   rcases Nat.eq_zero_or_pos m with h0|h0
   ·subst h0
    have hn:news=[]:=List.eq_nil_of_length_eq_zero (by simpa using hr.1)
    subst hn
    simp at hu
   ·obtain⟨ad',h,_,hc⟩:=hr.2 h0
    injection h with h
    subst h
    exact hc j u hu
  obtain⟨v',w',hrun,h2,h3,_,h5⟩:=run_append_own_at (P:=P) w base t ty e i z size bytes ht hi hz hsize hby hzs hsz v n xs hown ad m c news hr.1 hcells h1 hroom.1 hroom.2 hbase
  refine⟨v',w',hrun,h2,h3,?_⟩
  rcases h5 with h5|h5
  ·exact .inl h5
  ·exact .inr ⟨_,h5,Nat.le_refl _⟩
theorem wp_append_any {o:Oper} {a:Act} {K:Act→World→Prop} {Q:Exit→Act→World→Prop} (s x:Operand) {t:TypeId}
  (ho:o.op=.call { callee:=.builtin .append,args:=#[s,x],argTypes:=#[t,t] })
  (base:Nat) {e:TypeId} {size bytes:Nat} (hE:IsElem P t e size bytes)
  (v:Value) (n:Nat) (xs:List Value) (hs:a.eval s=v) (hown:w.ownsRow base e size v n xs)
  (Bk:Nat) (A:Option Addr) (m c:Nat) (news:List Value) (hx:a.eval x=.slice A m c) (hr:Reads w Bk size A m news) (h1:∀u∈news,u.oneCell'=true)
  (hroom:Room n m bytes) (hbase:base≤w.heap.size)
  (h:∀v' w',w'.ownsRow base e size v' (n+m) (xs++news)→Grows w w' v v'→K (a.put o.dst v') w'):o.wp P a w K Q:=by
 obtain⟨v',w',hrun,h2,h3⟩:=run_append_any (P:=P) (w:=w) base (ty:=o.type) hE v n xs hown Bk A m c news hr h1 hroom hbase
 unfold Oper.wp execOp
 simp only[ho,resolve,invoke,builtin,Sem.run_bind,Sem.run_pure,Result.andThen_ok,List.map_toArray,List.map_cons,List.map_nil,hs,hx,hrun]
 exact h v' w' h2 h3
theorem wpList_append_any {ops:Array Oper} {rest:List Oper} {o:Oper} {a:Act} {Q:Exit→Act→World→Prop} (hgd:o.guard=none) (s x:Operand) {t:TypeId}
  (ho:o.op=.call { callee:=.builtin .append,args:=#[s,x],argTypes:=#[t,t] })
  (base:Nat) {e:TypeId} {size bytes:Nat} (hE:IsElem P t e size bytes)
  (v:Value) (n:Nat) (xs:List Value) (hs:a.eval s=v) (hown:w.ownsRow base e size v n xs)
  (Bk:Nat) (A:Option Addr) (m c:Nat) (news:List Value) (hx:a.eval x=.slice A m c) (hr:Reads w Bk size A m news) (h1:∀u∈news,u.oneCell'=true)
  (hroom:Room n m bytes) (hbase:base≤w.heap.size)
  (h:∀v' w',w'.ownsRow base e size v' (n+m) (xs++news)→Grows w w' v v'→wpList P ops Q rest (a.put o.dst v') w'):wpList P ops Q (o::rest) a w :=
 wpList_plain hgd fun _ hK=>wp_append_any s x ho base hE v n xs hs hown Bk A m c news hx hr h1 hroom hbase fun v' w' h2 h3=>hK _ _ (h v' w' h2 h3)
theorem wpList_push {ops:Array Oper} {rest:List Oper} {o:Oper} {a:Act} {Q:Exit→Act→World→Prop} (hgd:o.guard=none) (s x:Operand) {t:TypeId}
  (ho:o.op=.call { callee:=.builtin .append,args:=#[s,x],argTypes:=#[t,t] })
  (base:Nat) {e:TypeId} {bytes:Nat} (hE:IsElem P t e 1 bytes)
  (v:Value) (n:Nat) (xs:List Value) (hs:a.eval s=v) (w0:World) (u:Value) (e':TypeId) (hw:w=w0.alloc (.cells #[u] e')) (hown:w0.ownsRow base e 1 v n xs)
  (hx:a.eval x=.slice (some ⟨w0.heap.size,0,none⟩) 1 1) (h1:u.oneCell'=true)
  (hroom:Room n 1 bytes) (hbase:base≤w0.heap.size)
  (h:∀v' w',w'.ownsRow base e 1 v' (n+1) (xs++[u])→Grows w0 w' v v'→wpList P ops Q rest (a.put o.dst v') w'):wpList P ops Q (o::rest) a w:=by
 subst hw
 refine wpList_append_any hgd s x ho base hE v n xs hs (hown.alloc _) (w0.heap.size+1) _ 1 1 [u] hx (Reads.of_new w0 [u] e' 1 rfl) (by simpa using h1) hroom (by simp;omega) fun v' w' h2 h3=>h v' w' h2 h3.alloc_first
end
end Go.Proofs.YtomppgohoplemaaGreat
