import Derived.Deep.QuietTactic
import Derived.BigQuiet
import Derived.Test.YtomppgohoplemaaGreatNAF
import Derived.Test.YtomppgohoplemaaGreatNAA
import Derived.Test.YtomppgohoplemaaGreatNAR
import Derived.Test.YtomppgohoplemaaGreatNAQ
import Derived.Test.YtomppgohoplemaaGreatNAN
import Derived.Test.YtomppgohoplemaaGreatNAT
import Derived.Test.YtomppgohoplemaaGreatNAM
set_option linter.unusedVariables false
namespace Go.Proofs.YtomppgohoplemaaGreat
open Go.RowKit
structure ExtW (w0:World) where
 w:World
 b:Below w0.heap.size w0 w
instance ext_some (w0:World):Nonempty (ExtW w0):=⟨⟨w0,Below.refl _ _⟩⟩
def ExtC (w0 W:World):Prop:=∃k:ExtW w0,W=k.w
theorem ExtC.drew (w:World):ExtC w { w with drawn:=w.drawn+1 }:=⟨⟨_,(Below.refl _ _).drew⟩,rfl⟩
theorem ext_call {P:Program} {f:FuncId} {args:Array Value} {w0:World} {k:ExtW w0} {v:Value} (h:Calls P f args k.w fun e w'=>e=.returned v∧Hid (Below k.w.heap.size k.w w')) :
  Calls P f args k.w fun e w''=>e=.returned v∧∃k':ExtW w0,w''=k'.w :=
 h.mono fun _ _ ⟨he,hb⟩=>⟨he,⟨_,k.b.trans (hb.out.mono k.b.size)⟩,rfl⟩
theorem ext_same {P:Program} {f:FuncId} {args:Array Value} {w0:World} {k:ExtW w0} {v:Value} (h:Calls P f args k.w fun e w'=>e=.returned v∧k.w=w') :
  Calls P f args k.w fun e w''=>e=.returned v∧∃k':ExtW w0,w''=k'.w :=
 h.mono fun _ _ ⟨he,hb⟩=>⟨he,k,hb.symm⟩
theorem ExtW.cell {w0:World} (k:ExtW w0) {p:Addr} {v:Value} (h:w0.cell? p=some v):k.w.cell? p=some v:=(k.b.cell (World.block_lt_of_cell? w0 _ h)).trans h
section
variable {P:Program}
theorem wp_region_ext {id:Nat} {Q:Exit→Act→World→Prop} {a:Act} {w:World} {l:List Oper} (hm:P.follows .mixedOrders=true) (hB:Region.lexB .any l.toArray=true)
  (h:wpQuiet P l.toArray (fun W=>∃k:ExtW w,W=k.w) (fun a'=>∀k:ExtW w,Q .normal a' k.w) l a):(Code.region id l.toArray true).wp P Q a w:=by
 refine wp_region_quiet (C:=fun W=>∃k:ExtW w,W=k.w) hm hB (ExtC.drew w) ?_
 have e:(fun a'=>∀w',(∃k:ExtW w,w'=k.w)→Q .normal a' w')=fun a'=>∀k:ExtW w,Q .normal a' k.w:=by
  funext a'
  exact propext ⟨fun h k=>h _ ⟨k,rfl⟩,fun h w' ⟨k,hk⟩=>hk▸h k⟩
 rw[e]
 simpa using h
theorem wp_region_ext_last {id:Nat} {Q:Exit→Act→World→Prop} {a:Act} {w:World} {l:List Oper} {o:Oper} (hm:P.follows .mixedOrders=true) (hok:okB a.tmps.size l 0=true) (hlast:lastB l o=true) (hB:Region.lexB .any l.toArray=true)
  (h:wpQuiet P l.toArray (fun W=>∃k:ExtW w,W=k.w) (fun a'=>∀k:ExtW w,wpList P #[o] Q [o] a' k.w) l a):(Code.region id (l++[o]).toArray true).wp P Q a w:=by
 refine wp_region_any hm ?_
 have hgd:o.guard=none:=by
  simp only[lastB,Bool.and_eq_true]at hlast
  exact Option.isNone_iff_eq_none.1 hlast.1.2
 have h1:wpAny P .any l.toArray (TailQ P o Q) l.length (Array.replicate l.length false) a w.drew:=by
  have hB':=hB
  simp only[Region.lexB,Bool.and_eq_true]at hB'
  refine wpAny_of_quiet (C:=fun W=>∃k:ExtW w,W=k.w) (Q:=fun a'=>∀k:ExtW w,wpList P #[o] Q [o] a' k.w) (fun a' w' hw' h3=>?_) _ _ _ _ (ExtC.drew w) ?_
  ·obtain⟨k,rfl⟩:=hw'
   have h4:=h3 k
   unfold wpList at h4
   rw[if_pos (by simp[Region.wanted,hgd])]at h4
   exact h4
  ·have:=wpAnyQ_lex (C:=fun W=>∃k:ExtW w,W=k.w) (md:=.any) hB'.1 l 0 (Array.replicate l.toArray.size false) a (by simp) (by simpa using hB'.2) h
   simpa using this
 have h2:=any_tail (Q:=Q) hok hlast l.length _ a w.drew (by simp) (fun i p hp hl=>by
  exfalso
  rw[Array.getElem?_replicate]at hl
  split at hl<;>simp at hl) h1
 have e1:(l++[o]).toArray.size=l.length+1:=by simp
 have e2:(Array.replicate l.length false).push false=Array.replicate (l.length+1) false:=by
  rw[←Array.replicate_succ]
 rw[e1,←e2]
 exact h2
end
section
variable {P:Program}
theorem tail_of_list {o:Oper} {Q:Exit→Act→World→Prop} {a:Act} {w:World} (hgd:o.guard=none) (h:wpList P #[o] Q [o] a w):TailQ P o Q .normal a w:=by
 unfold wpList at h
 rw[if_pos (by simp[Region.wanted,hgd])]at h
 exact h
theorem wp_region_two {R R':World→World→Prop} (hR:IsExt R) (hR':IsExt R') (hsub:∀a b,R a b→R' a b) (cs:List Nat) (c:Nat) {id:Nat} {l:List Oper} {o1 o2:Oper} {Q:Exit→Act→World→Prop} {a0:Act} {w0:World} (F:Nat→Value→World→Prop) (hm:P.follows .mixedOrders=true) (hok:okD a0.tmps.size l 0=true)
  (hokB:okB a0.tmps.size l 0=true) (hokB1:okB a0.tmps.size (l++[o1]) 0=true) (hl1:lastB l o1=true) (hl2:lastB (l++[o1]) o2=true)
  (hch:chainOk l cs=true) (hnd:cs.Nodup) (hla:cs[cs.length-1]?=some c) (hlt0:∀x∈cs,x<l.length) (hsd:storesIn l cs=true) (hnu:∀(i:Nat) v w,(l[i]?).map (·.dst)=some none→F i v w→F i undef w)
  (hobs:ObsD R R' P l F a0 w0 cs l 0)
  (hend:∀(vs:Nat→Value) (W:World),R' w0 W→(∀i,i<l.length→WasR R' (F i) (vs i) W)→WasR R (F c) (vs c) W→wpList P #[o1] (TailQ P o2 Q) [o1] (fillL l 0 vs a0) W):(Code.region id ((l++[o1])++[o2]).toArray true).wp P Q a0 w0:=by
 refine wp_region_any hm ?_
 have h1:wpAny P .any l.toArray (TailQ P o1 (TailQ P o2 Q)) l.length (Array.replicate l.length false) a0 w0.drew:=by
  have hgd:o1.guard=none:=by
   simp only[lastB,Bool.and_eq_true]at hl1
   exact Option.isNone_iff_eq_none.1 hl1.1.2
  refine any_of_midD hR hR' hsub rfl hok hch hnd hla hlt0 (stores_in hsd) (fun i o _ ho w w' v _ hF hn=>hnu i v w' (by rw[ho];simp[hn]) hF) hobs (fun vs W a b d=>tail_of_list hgd (hend vs W a b d)) _ _ _ _ ⟨by simp,rfl,rfl,hR'.drew _,⟨0,by omega,fun m c' hc'=>?_,fun _=>hR.drew _,fun m c' p' h=>by omega⟩,fun t _=>rfl,fun i o hi hl=>?_,fun i o hi hl=>?_⟩ ?_
  ·rw[Array.getElem?_replicate]
   split<;>simp
  ·exfalso
   rw[Array.getElem?_replicate]at hl
   split at hl<;>simp at hl
  ·exfalso
   rw[Array.getElem?_replicate]at hl
   split at hl<;>simp at hl
  ·rw[Array.toList_replicate]
   refine Nat.le_trans List.count_le_length ?_
   simp
 have hno:∀(l:List Oper) (k:Nat),∀(i:Nat) p,l[i]?=some p→(Array.replicate k false)[i]?=some true→∀j∈depsOf p,(Array.replicate k false)[j]?=some true:=by
  intro l k i p hp hl
  exfalso
  rw[Array.getElem?_replicate]at hl
  split at hl<;>simp at hl
 have h2:=any_tail (Q:=TailQ P o2 Q) hokB hl1 l.length _ a0 w0.drew (by simp) (hno l _) h1
 have e2:∀k:Nat,(Array.replicate k false).push false=Array.replicate (k+1) false:=fun k=>by rw[←Array.replicate_succ]
 rw[e2]at h2
 have h3:=any_tail (Q:=Q) hokB1 hl2 (l.length+1) (Array.replicate (l.length+1) false) a0 w0.drew (by simp) (hno _ _) h2
 rw[e2]at h3
 have e1:((l++[o1])++[o2]).toArray.size=l.length+1+1:=by simp
 rw[e1]
 exact h3
end
def rightB (b:MBd):Bool:=b.l.all rightX&&(b.loc.all goodT8&&decide (b.loc.length≤50))
def runStep (acc:List (Nat×UInt8)) (t:UInt8):List (Nat×UInt8) :=
 match acc.getLast? with
 | some (n,u)=>if u=t then acc.dropLast++[(n+1,u)]else acc++[(1,t)]
 | none=>[(1,t)]
def brunsL (l:List UInt8):List (Nat×UInt8):=l.foldl runStep []
def runD (r:Nat×UInt8):List Value:=[.int .i64 (r.1:Int),.int .u8 (r.2.toNat:Int)]
structure BdSz (y:BdL):Prop where
 loc:y.loc.l.length≤1000
 l:y.l.l.length≤1000
 lab:∀x∈y.l.l,x.l.l.length≤1000
theorem right1_any (x:XL) (w:World) (hx:Hid x.x.In) (hr:Hid (Row w 1 uD x.l)) (hl:x.l.l.length≤1000) :
  Calls Tryz.prog 97 #[.agg #[.int .i64 x.code,.int .u64 (x.a:Int),.int .u64 (x.b:Int),.int .i64 x.al,.slice x.l.at_ x.l.l.length x.l.cap]] w fun e w'=>e=.returned (.bool (!rightX x.x))∧Hid (Below w.heap.size w w'):=by
 obtain⟨W,hW,hb,hxb,hsz⟩:=box_new w #[.int .i64 x.code,.int .u64 (x.a:Int),.int .u64 (x.b:Int),.int .i64 x.al,.slice x.l.at_ x.l.l.length x.l.cap] 131
 have e0:=cell_blk hxb 0
 have e1:=cell_blk hxb 1
 have e2:=cell_blk hxb 2
 have e3:=cell_blk hxb 3
 have e4:=cell_blk hxb 4
 simp at e0 e1 e2 e3 e4
 have HC:=hide (insRight_any x.x x.l.at_ x.l.cap W hx (hide (hr.out.below hb).nums) (show x.l.l.length≤1000000 by omega))
 simp only[XL.x]at HC
 rw[show (⟨x.code,x.a,x.b,x.al,x.l.l⟩:XI)=x.x from rfl]at HC
 generalize rightX x.x=q at *
 have HB:=hide hb;have HW:=hide hW
 clear hb hW hxb hsz
 go_enter Tryz.func97,Tryz.ntmps97
 go_upto_region 1 with fail
 rw[HW.out]
 go_wp2_with fail
 refine HC.out.mono ?_;rintro e w2 ⟨rfl,h2⟩
 go_wp2_with fail
 go_ret
 exact⟨rfl,HB.out.trans (h2.out.mono HB.out.size)⟩
theorem right2_any (t:UInt8) (w:World):Calls Tryz.prog 100 #[.int .u8 (t.toNat:Int)] w fun e w'=>e=.returned (.bool (!goodT8 t))∧Hid (Below w.heap.size w w'):=by
 have HC:=hide (tbits_any t w)
 have h6:(t==126)=decide (t.toNat=126):=by rw[Bool.eq_iff_iff];simp[←UInt8.toNat_inj]
 have h7:(t==127)=decide (t.toNat=127):=by rw[Bool.eq_iff_iff];simp[←UInt8.toNat_inj]
 unfold goodT8
 rw[h6,h7]
 unfold bitsV at HC
 by_cases e7:t.toNat=127
 ·rw[if_pos e7]at HC
  have hq:Hid ((!(decide (t.toNat=126)||decide (t.toNat=127)))=false):=by show _=_;simp[e7]
  rw[hq.out]
  clear e7 h6 h7
  go_enter Tryz.func100,Tryz.ntmps100
  go_wp2_with fail
  refine HC.out.mono ?_;rintro e w2 ⟨rfl,rfl⟩
  go_wp2_with fail
  go_ret
  exact⟨rfl,Below.refl _ _⟩
 ·by_cases e6:t.toNat=126
  ·rw[if_neg e7,if_pos e6]at HC
   have hq:Hid ((!(decide (t.toNat=126)||decide (t.toNat=127)))=false):=by show _=_;simp[e6]
   rw[hq.out]
   clear e7 e6 h6 h7
   go_enter Tryz.func100,Tryz.ntmps100
   go_wp2_with fail
   refine HC.out.mono ?_;rintro e w2 ⟨rfl,rfl⟩
   go_wp2_with fail
   go_ret
   exact⟨rfl,Below.refl _ _⟩
  ·rw[if_neg e7,if_neg e6]at HC
   have hq:Hid ((!(decide (t.toNat=126)||decide (t.toNat=127)))=true):=by show _=_;simp[e6,e7]
   rw[hq.out]
   clear e7 e6 h6 h7
   go_enter Tryz.func100,Tryz.ntmps100
   go_wp2_with fail
   refine HC.out.mono ?_;rintro e w2 ⟨rfl,rfl⟩
   go_wp2_with fail
   go_ret
   exact⟨rfl,Below.refl _ _⟩
set_option maxRecDepth 100000 in
set_option maxHeartbeats 1600000 in
theorem bright_any (y:BdL) (w:World) (h:Hid (BdIn w y)) (hz:Hid (BdSz y)) :
  Calls Tryz.prog 64 #[.agg #[.slice y.loc.at_ y.loc.l.length y.loc.cap,.slice y.l.at_ y.l.l.length y.l.cap]] w fun e w'=>e=.returned (.bool (rightB y.g))∧Hid (Below w.heap.size w w'):=by
 obtain⟨W,hW,hb,hxb,hsz⟩:=box_new w #[.slice y.loc.at_ y.loc.l.length y.loc.cap,.slice y.l.at_ y.l.l.length y.l.cap] 76
 have hB:=hide (h.out.below hb)
 have e0:=cell_blk hxb 0
 have e1:=cell_blk hxb 1
 simp at e0 e1
 have z1:=hz.out.loc;have z2:=hz.out.l
 have H1:=hide (has_ins y.l y.l.l.length 97 #[] (fun x=>!rightX x.x) W (hide hB.out.l) rfl (by omega)
  (fun x W=>callF Tryz.func97 (by kernel_rfl) (by kernel_rfl) _ W)
  (hide (fun k x hk V hV=>right1_any x V (hide (hB.out.num x (List.mem_of_getElem? hk))) (hide ((hB.out.lab x (List.mem_of_getElem? hk)).below hV)) (hz.out.lab x (List.mem_of_getElem? hk)))))
 have H2:=hide (fun (V:World) (hV:Below W.heap.size W V)=>has_tys y.loc y.loc.l.length 100 #[] (fun t=>!goodT8 t) V (hide (hB.out.loc.below hV)) rfl (by omega)
  (fun x W=>callF Tryz.func100 (by kernel_rfl) (by kernel_rfl) _ W)
  (hide (fun k t hk U hU=>right2_any t U)))
 have hq:Hid (rightB y.g=(!(y.l.l.any (fun x=>!rightX x.x))&&(!(y.loc.l.any (fun t=>!goodT8 t))&&decide (y.loc.l.length≤50)))):=by
  show _=_
  unfold rightB
  simp only[BdL.g,List.all_map]
  rw[List.not_any_eq_all_not,List.not_any_eq_all_not]
  simp[Function.comp_def]
  rfl
 have HB:=hide hb;have HW:=hide hW;have HX:=hide hxb
 clear hb hW hxb hsz
 generalize y.l.l.any (fun x=>!rightX x.x)=a1 at *
 generalize y.loc.l.any (fun t=>!goodT8 t)=a2 at *
 generalize y.loc.l.length=n at *
 go_enter Tryz.func64,Tryz.ntmps64
 go_upto_region 1 with fail
 rw[HW.out]
 go_wp2_with fail
 refine H1.out.mono ?_;rintro e w2 ⟨rfl,h2⟩
 have e2:=cell_blk ((h2.out.block w.heap.size (blk_lt HX.out)).trans HX.out) 0
 simp at e2
 go_wp2_with fail
 refine(H2.out w2 h2.out).mono ?_;rintro e w3 ⟨rfl,h3⟩
 have e3:=cell_blk (((h3.out.mono h2.out.size).block w.heap.size (blk_lt HX.out)).trans ((h2.out.block w.heap.size (blk_lt HX.out)).trans HX.out)) 0
 simp at e3
 have HB3:=hide ((HB.out.trans (h2.out.mono HB.out.size)).trans (h3.out.mono (Nat.le_trans HB.out.size h2.out.size)))
 clear e0 e1 e2 H1 H2 h2 h3
 by_cases h50:n≤50
 ·have hd:decide ((n:Int)≤50)=true:=decide_eq_true (by omega)
  rw[decide_eq_true h50]at hq
  clear h50
  cases a1<;>cases a2 <;>
  ·go_wp2_with fail
   go_ret
   exact⟨by rw[hq.out];rfl,HB3.out⟩
 ·have hd:decide ((n:Int)≤50)=false:=decide_eq_false (by omega)
  rw[decide_eq_false h50]at hq
  clear h50
  cases a1<;>cases a2 <;>
  ·go_wp2_with fail
   go_ret
   exact⟨by rw[hq.out];rfl,HB3.out⟩
theorem bruns_take {l:List UInt8} {k:Nat} {t:UInt8} (h:l[k]?=some t):brunsL (l.take (k+1))=runStep (brunsL (l.take k)) t:=by
 unfold brunsL
 rw[List.take_add_one,h,List.foldl_append]
 rfl
theorem bruns_len:∀(l:List UInt8),(brunsL l).length≤l.length∧∀r∈brunsL l,r.1≤l.length:=by
 have key:∀(l:List UInt8) (acc:List (Nat×UInt8)) (n:Nat),acc.length≤n→(∀r∈acc,r.1≤n)→(l.foldl runStep acc).length≤n+l.length∧∀r∈l.foldl runStep acc,r.1≤n+l.length:=by
  intro l
  induction l with
  | nil=>intro acc n h1 h2;exact⟨by simpa using h1,fun r hr=>by have:=h2 r hr;simp;omega⟩
  | cons t l ih =>
   intro acc n h1 h2
   rw[List.foldl_cons,List.length_cons,show n+(l.length+1)=(n+1)+l.length from by omega]
   apply ih
   ·unfold runStep
    split
    ·split
     ·simp;omega
     ·simp;omega
    ·simp
   ·intro r hr
    unfold runStep at hr
    split at hr
    ·rename_i m u hlast
     split at hr
     ·rcases List.mem_append.1 hr with hr|hr
      ·have:=h2 r ((List.dropLast_subset _) hr);omega
      ·simp at hr;subst hr
       have:=h2 (m,u) (List.mem_of_getLast? hlast)
       simp at this ⊢;omega
     ·rcases List.mem_append.1 hr with hr|hr
      ·have:=h2 r hr;omega
      ·simp at hr;subst hr;simp
    ·simp at hr;subst hr;simp
 intro l
 have:=key l [] 0 (by simp) (by simp)
 simpa [brunsL]using this
theorem brun_elem:IsElem Tryz.prog 163 167 2 16:=IsElem.mk' Tryz.underlying163 (z:=.agg #[.int .i64 0,.int .u8 0]) (by kernel_rfl) rfl (by omega)
theorem own_cell {w:World} {base:Nat} {e:TypeId} {size n g:Nat} {v:Value} {α:Type} {dec:α→List Value} {ys:List α} (hd:∀a,(dec a).length=size) (h:w.ownsRow base e size v n (ys.flatMap dec)) (hg:v.ownBlock=some g) {i:Nat} {x:α} (hx:ys[i]?=some x) :
  ∀j,j<size→∀u,(dec x)[j]?=some u→w.cell? ⟨g,i*size+j,none⟩=some u:=by
 intro j hj u hu
 have:=h.cells (g:=g) hg (i*size+j) u (by rw[flatMap_get (dec:=dec) (size:=size) hd ys i j _ hx hj];exact hu)
 rwa [show Addr.add ⟨g,0,none⟩ (i*size+j)=⟨g,i*size+j,none⟩from by unfold Addr.add;split<;>simp_all]at this
theorem own_free {w:World} {base:Nat} {e:TypeId} {size n g:Nat} {v:Value} {xs:List Value} (h:w.ownsRow base e size v n xs) (hg:v.ownBlock=some g) (k:Nat):w.frozen? ⟨g,k,none⟩=false:=by
 rcases h.2 with ⟨rfl,_⟩|⟨g',cap,cur,rfl,hbg,hh,_⟩
 ·cases hg
 ·have:g'=g:=by injection hg
  subst this
  exact frozen_blk hh k
def RunsP (w:World) (ls:List UInt8) (e:Ending) (w':World):Prop:=∃v',e=.returned v'∧Hid (w'.ownsRow w.heap.size 167 2 v' (brunsL ls).length ((brunsL ls).flatMap runD))∧Hid (Below w.heap.size w w')
set_option maxRecDepth 100000 in
set_option maxHeartbeats 3200000 in
theorem runs_any (A:Option Addr) (c:Nat) (ls:List UInt8) (w:World) (hr:Hid (Reads w w.heap.size 1 A ls.length (ls.map B))) (hl:ls.length≤1000) :
  Calls Tryz.prog 65 #[.slice A ls.length c] w (RunsP w ls):=by
 obtain⟨base,hbase⟩:∃b,w.heap.size=b:=⟨_,rfl⟩
 have HBA:=hide hbase
 rw[hbase]at hr
 clear hbase
 go_enter Tryz.func65,Tryz.ntmps65
 go_wp2_with fail
 go_loopw [3,5,6,9] (fun v t0 n0 i w1=>∃k:Nat,i=.int .i64 (k:Int)∧k≤ls.length∧Hid (w1.ownsRow base 167 2 v (brunsL (ls.take k)).length ((brunsL (ls.take k)).flatMap runD))∧Hid (Below base w w1)∧base≤w1.heap.size) (fun _ _ _ i _=>ls.length-(intOf i).toNat)
 case atStart=>exact⟨0,rfl,by omega,own_nil _ _ _ _,Below.refl _ _,by rw[HBA.out];omega⟩
 case round =>
  obtain⟨k,rfl,hk,ho,hb,hbs⟩:=hrel
  by_cases hlt:k<ls.length
  ·have hrk:Reads wr base 1 A ls.length (ls.map B):=hr.out.below hb.out
   obtain⟨ad,t,rfl,ht,hcell,_,_⟩:=hrk.byte (k:=k) hlt
   have hst:=bruns_take ht.out
   have hln:=bruns_len (ls.take k)
   rw[List.length_take]at hln
   have hln1:(brunsL (ls.take k)).length≤1000:=by have:=hln.1;omega
   obtain⟨A2,c2,hv,hc2,hc3⟩:=own_form ho.out
   cases hlast:(brunsL (ls.take k)).getLast? with
   | none =>
    have hnil:brunsL (ls.take k)=[]:=List.getLast?_eq_none_iff.1 hlast
    rw[hnil]at ho hst hv
    have hst2:Hid (brunsL (ls.take (k+1))=[(1,t)]):=hst
    have HO:=ho
    rw[hv]at HO
    subst hv
    have hroom:Room 0 1 16:=room_of (by omega) (by omega)
    clear hrk hst hln hlast hnil ho hc2 hln1
    go_wp2_with (at_builtin;refine wpList_push_n rfl _ _ rfl base brun_elem (.slice A2 0 c2) 0 [] rfl wr [.int .i64 1,.int .u8 (t.toNat:Int)] 167 rfl HO.out rfl rfl (by simp[Value.oneCell']) hroom hbs ?_;intro v' w3 ho3 hg3;have ho3':=hide ho3;have hg3':=hide hg3;clear ho3 hg3)
    go_roundw
    case rel =>
     refine⟨k+1,by go_num,by omega,?_,hb.out.grown hg3'.out.by_ hbs (own_ge HO.out),Nat.le_trans hbs hg3'.out.by_.size⟩
     show World.ownsRow _ _ _ _ _ _ _
     rw[hst2.out]
     exact own_cast ho3'.out (by simp) (by simp[runD])
    case measure=>simp[intOf]<;>omega
   | some r =>
    obtain⟨m,u⟩:=r
    obtain⟨acc,hacc⟩:∃acc,brunsL (ls.take k)=acc:=⟨_,rfl⟩
    rw[hacc]at ho hst hv hlast hln hln1 hc2
    have hne:acc≠[]:=by intro e;rw[e]at hlast;simp at hlast
    obtain⟨q,hq⟩:∃q,acc.length=q+1:=⟨acc.length-1,by have:=List.length_pos_iff.2 hne;omega⟩
    have hat:acc[q]?=some (m,u):=by rw[List.getLast?_eq_getElem?,hq]at hlast;simpa using hlast
    have hm:m≤1000:=by have:=hln.2 (m,u) (List.mem_of_getElem? hat);simp at this;omega
    have HO:=ho
    rw[hv]at HO
    obtain⟨g,hg⟩:∃g,A2=some ⟨g,0,none⟩:=by
     rcases HO.out.2 with ⟨h1,_⟩|⟨g,cap,cur,h1,_⟩
     ·injection h1 with _ h1;omega
     ·injection h1 with h1;exact⟨g,h1⟩
    subst hg
    have hc:=own_cell (g:=g) (dec:=runD) (fun _=>rfl) HO.out rfl hat
    have k0:=hc 0 (by omega) _ rfl
    have k1:=hc 1 (by omega) _ rfl
    have z0:=own_free (g:=g) HO.out rfl (q*2)
    have hbg:base≤g:=own_ge HO.out g rfl
    rw[Nat.add_zero]at k0
    obtain⟨n1,hn1⟩:∃n1,acc.length=n1:=⟨_,rfl⟩
    have hq1:n1=q+1:=by omega
    have e1:(n1:Int)-1=(q:Int):=by omega
    have e2:(0:Int)<(n1:Int):=by omega
    have e3:(q:Int)<(n1:Int):=by omega
    have e4:n1≤1000:=by omega
    have e5:q≤1000:=by omega
    rw[hn1]at HO hv
    subst hv
    by_cases hut:u=t
    ·have hst2:Hid (brunsL (ls.take (k+1))=acc.dropLast++[(m+1,u)]):=by show _=_;rw[hst];unfold runStep;rw[hlast];simp only[if_pos hut]
     have ht1:(u.toNat:Int)=(t.toNat:Int):=by rw[hut]
     rw[ht1]at k1
     have hset:Hid ((acc.flatMap runD).set (q*2+0) (.int .i64 ((m:Int)+1))=(acc.dropLast++[(m+1,u)]).flatMap runD):=by
      show _=_
      rw[flatMap_set (dec:=runD) (fun _=>rfl) acc q 0 _ (m+1,u) _ hat (by omega) (by simp[runD])]
      congr 1
      rw[List.dropLast_eq_take,hq,Nat.add_sub_cancel]
      apply List.ext_getElem?
      intro j
      rcases Nat.lt_trichotomy j q with hj|hj|hj
      ·rw[List.getElem?_set_ne (by omega),List.getElem?_append_left (by rw[List.length_take];omega),List.getElem?_take,if_pos hj]
      ·subst hj
       rw[List.getElem?_set_self (by omega),List.getElem?_append_right (by rw[List.length_take];omega),List.length_take,Nat.min_eq_left (by omega),Nat.sub_self]
       rfl
      ·rw[List.getElem?_eq_none (by rw[List.length_set];omega),List.getElem?_eq_none (by rw[List.length_append,List.length_take];simp;omega)]
     have HSO:=hide (own_setCell (g:=g) HO.out rfl (q*2+0) (by omega) (.int .i64 ((m:Int)+1)))
     rw[hset.out,Nat.add_zero]at HSO
     have hlen2:Hid ((acc.dropLast++[(m+1,u)]).length=n1):=by show _=_;simp;omega
     have hbw:Hid (Below base wr (wr.setCell ⟨g,q*2,none⟩ (.int .i64 ((m:Int)+1)))):=(Below.refl _ _).setCell (p:=⟨g,q*2,none⟩) hbg _
     have hszw:(wr.setCell ⟨g,q*2,none⟩ (.int .i64 ((m:Int)+1))).heap.size=wr.heap.size:=by simp[World.setCell]
     have HSZ:=hide hszw
     clear hrk hst hln hlast ho hc2 hln1 hc hacc hat hne hut ht1 hset hszw hq hn1 hq1
     go_wp2_with fail
     go_roundw
     case rel =>
      refine⟨k+1,by go_num,by omega,?_,hb.out.trans hbw.out,by rw[HSZ.out];exact hbs⟩
      show World.ownsRow _ _ _ _ _ _ _
      rw[hst2.out,hlen2.out]
      exact HSO.out
     case measure=>simp[intOf]<;>omega
    ·have hst2:Hid (brunsL (ls.take (k+1))=acc++[(1,t)]):=by show _=_;rw[hst];unfold runStep;rw[hlast];simp only[if_neg hut]
     have hne2:((u.toNat:Int)==(t.toNat:Int))=false:=by
      rw[beq_eq_false_iff_ne]
      intro e
      exact hut (UInt8.toNat_inj.1 (by omega))
     have hroom:Room n1 1 16:=room_of (by omega) (by omega)
     have HQ:=hide hn1
     clear hrk hst hln hlast ho hc2 hln1 hc hacc hat hne hut hq hn1 hq1
     go_wp2_with (at_builtin;refine wpList_push_n rfl _ _ rfl base brun_elem (.slice (some ⟨g,0,none⟩) n1 c2) n1 (acc.flatMap runD) rfl wr [.int .i64 1,.int .u8 (t.toNat:Int)] 167 rfl HO.out rfl rfl (by simp[Value.oneCell']) hroom hbs ?_;intro v' w3 ho3 hg3;have ho3':=hide ho3;have hg3':=hide hg3;clear ho3 hg3)
     go_roundw
     case rel =>
      refine⟨k+1,by go_num,by omega,?_,hb.out.grown hg3'.out.by_ hbs (own_ge HO.out),Nat.le_trans hbs hg3'.out.by_.size⟩
      show World.ownsRow _ _ _ _ _ _ _
      rw[hst2.out]
      exact own_cast ho3'.out (by rw[List.length_append,HQ.out];rfl) (by simp[runD])
     case measure=>simp[intOf]<;>omega
  ·have hkn:k=ls.length:=by omega
   subst hkn
   have hfull:=ho.out
   rw[List.take_length]at hfull
   have HF:=hide hfull
   clear hlt hfull ho
   go_wp2_with fail
   go_ret
   exact⟨_,rfl,by rw[HBA.out];exact HF.out,by rw[HBA.out];exact hb.out⟩
end Go.Proofs.YtomppgohoplemaaGreat
