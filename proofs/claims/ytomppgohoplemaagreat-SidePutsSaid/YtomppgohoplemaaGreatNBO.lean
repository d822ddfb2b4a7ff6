import Derived.Test.YtomppgohoplemaaGreatNAC
import Derived.Test.YtomppgohoplemaaGreatNBN
import Derived.Test.YtomppgohoplemaaGreatNAM
import Derived.RangeFuncNested
import Derived.RangeFuncBound
import Derived.RangeFuncCalls
import Derived.RangeFuncLeaves
import Derived.RangeFuncBox
import Derived.Shelf.Abstract
import Derived.WalkKit
import Derived.OwnWalkIn
import Derived.TacticsInMore
import Derived.LoopNIn
import Derived.LoopIn
import Derived.Maps.AppendAt
import Derived.Test.YtomppgohoplemaaGreatNAO
import Derived.Test.YtomppgohoplemaaGreatShelf
import Derived.Deep.DeepCutAuto
set_option linter.unusedVariables false
namespace Go.Proofs.YtomppgohoplemaaGreat
open Go.RowKit Go.Shelf
attribute [local go_sem] Oper.semAt_some
abbrev Spn:=Int×Int×Int
def backL (sp:List Spn):List (Nat×Spn):=(List.range sp.length).reverse.map (fun k=>(k,sp.getD k (0,0,0)))
theorem backL_len (sp:List Spn):(backL sp).length=sp.length:=by simp[backL]
theorem backL_at (sp:List Spn) {j:Nat} (h:j<sp.length):(backL sp)[sp.length-(j+1)]?=some (j,sp.getD j (0,0,0)):=by
 unfold backL
 rw[List.getElem?_map,List.getElem?_reverse (by simp;omega)]
 simp only[List.length_range]
 rw[show sp.length-1-(sp.length-(j+1))=j by omega,List.getElem?_range h]
 rfl
theorem backL_take (sp:List Spn) {j:Nat} (h:j<sp.length):(backL sp).take (sp.length-j)=(backL sp).take (sp.length-(j+1))++[(j,sp.getD j (0,0,0))]:=by
 rw[show sp.length-j=sp.length-(j+1)+1 by omega,List.take_add_one,backL_at sp h]
 rfl
theorem backL_snd (sp:List Spn):(backL sp).map Prod.snd=sp.reverse:=by
 unfold backL
 rw[List.map_map,List.map_reverse]
 congr 1
 apply List.ext_getElem
 ·simp
 ·intro i h1 h2
  simp[h2]
def SpAt (n0:Nat) (W:World) (A:Option Addr) (sp:List Spn):Prop :=
 ∀k x,sp[k]?=some x→∃b off,A=some ⟨b,off,none⟩∧b<n0∧W.cell? ⟨b,off+k*3,none⟩=some (.int .i64 x.1)∧W.cell? ⟨b,off+k*3+1,none⟩=some (.int .i64 x.2.1)∧W.cell? ⟨b,off+k*3+2,none⟩=some (.int .i64 x.2.2)
theorem SpAt.below {n0:Nat} {W W':World} {A:Option Addr} {sp:List Spn} (h:SpAt n0 W A sp) (hb:Below n0 W W'):SpAt n0 W' A sp:=fun k x hx=>by
 obtain⟨b,off,e,hlt,a,c,d⟩:=h k x hx
 exact⟨b,off,e,hlt,(hb.cell (p:=⟨b,off+k*3,none⟩) hlt).trans a,(hb.cell (p:=⟨b,off+k*3+1,none⟩) hlt).trans c,(hb.cell (p:=⟨b,off+k*3+2,none⟩) hlt).trans d⟩
def spV (x:Spn):Value:=.agg #[.int .i64 x.1,.int .i64 x.2.1,.int .i64 x.2.2]
def KpB (n0 Bs:Nat) (W W':World):Prop:=Below n0 W W'∧(Bs<W.heap.size→W'.heap[Bs]?=W.heap[Bs]?)
theorem kpB_refl (n0 Bs:Nat) (W:World):KpB n0 Bs W W:=⟨Below.refl _ _,fun _=>rfl⟩
theorem kpB_t {n0 Bs:Nat} {a b c:World} (h:KpB n0 Bs a b) (k:KpB n0 Bs b c):KpB n0 Bs a c:=⟨h.1.trans k.1,fun hl=>(k.2 (Nat.lt_of_lt_of_le hl h.1.size)).trans (h.2 hl)⟩
set_option maxRecDepth 100000 in
set_option maxHeartbeats 2000000 in
theorem back1_in (F:Fence) (n:Nat) (h7:F.fn 74) (hro:F.round=none) (hn:1≤n) (l Bs n0 cap len:Nat) (A:Option Addr) (sp:List Spn) (hlen:len=sp.length) (hreach:len≤1000000) (J Jx:List (Nat×Spn)→World→Prop)
  (hY:∀pre x W,J pre W→pre.length<len→YieldAt F (n-1) Tryz.prog l #[.int .i64 (x.1:Int),spV x.2] W fun e W' =>
   (e=.returned (.bool true)∧J (pre++[x]) W'∧KpB n0 Bs W W')∨(e=.returned (.bool false)∧Jx (pre++[x]) W'))
  (W:World) (hBs:W.cell? ⟨Bs,0,none⟩=some (.slice A len cap)) (hBl:Bs<W.heap.size) (hc:SpAt n0 W A sp) (h0:J [] W) :
  CallsIn F n Tryz.prog 74 #[.func (.yield l) #[] #[],.pointer (some ⟨Bs,0,none⟩)] W fun e W'=>(∃v,e=.returned v) ∧
   ((∃ys,ys=backL sp∧J ys W')∨(∃pre,(∃k,k≤len∧pre=(backL sp).take k)∧Jx pre W')):=by
 subst hlen
 refine callsIn_of_wp Tryz.func74 rfl h7 ?_ hro
 simp only[Tryz.ntmps74,List.size_toArray,List.length_cons,List.length_nil,Nat.reduceAdd,Nat.reduceSub,Array.replicate_succ,Array.replicate_zero,List.push_toArray,List.append_toArray,List.nil_append,List.cons_append]
 gi_wp2
 gi_loopw [3] (fun i wr=>∃(k:Nat) (z:Int),k≤sp.length∧i=.int .i64 z∧z=(k:Int)-1∧J ((backL sp).take (sp.length-k)) wr∧KpB n0 Bs W wr)
  (fun i _=>(intOf i+1).toNat)
 case atStart=>exact⟨sp.length,_,Nat.le_refl _,rfl,rfl,by rw[Nat.sub_self,List.take_zero];exact h0,kpB_refl _ _ _⟩
 case round =>
  obtain⟨k,z,hk,rfl,hz,hJs,hnx⟩:=hrel
  have hBs2:wr.cell? ⟨Bs,0,none⟩=some (.slice A sp.length cap):=(World.cell?_of_block (a:=⟨Bs,0,none⟩) (hnx.2 hBl)).trans hBs
  rcases k with _|j
  ·obtain rfl:z=-1:=by omega
   clear hz
   gi_wp2
   go_end0
   exact⟨⟨_,rfl⟩,.inl ⟨_,rfl,by rw[Nat.sub_zero,List.take_of_length_le (by rw[backL_len];exact Nat.le_refl _)]at hJs;exact hJs⟩⟩
  ·obtain rfl:z=(j:Int):=by omega
   clear hz
   have hj:j<sp.length:=by omega
   obtain⟨b,off,rfl,hlt,d0,d1,d2⟩:=(hc.below hnx.1) j (sp.getD j (0,0,0)) (by rw[List.getD_eq_getElem?_getD,List.getElem?_eq_getElem hj];rfl)
   obtain⟨fn,tmps,assign,body,hy,hR⟩:=hY _ (j,sp.getD j (0,0,0)) wr hJs (by rw[List.length_take,backL_len];omega)
   dsimp only[spV]at hy
   have hjl:(j:Int)<(sp.length:Int):=by omega
   have HT:=hide (backL_take sp hj)
   generalize sp.getD j (0,0,0)=x at *
   gi_wp2
   refine hR.mono ?_
   rintro e W3 (⟨rfl,hJ3,hk3⟩|⟨rfl,hJx3⟩)
   ·gi_wp2
    go_roundw
    case rel=>exact⟨j,(j:Int)-1,by omega,by go_num,rfl,by rw[HT.out];exact hJ3,kpB_t hnx hk3⟩
    case measure=>simp[intOf]<;>omega
   ·gi_wp2
    refine bodyPost_ret (results_none rfl _ _ _) rfl ?_
    exact⟨⟨_,rfl⟩,.inr ⟨_,⟨sp.length-j,by omega,HT.out.symm⟩,hJx3⟩⟩
set_option maxHeartbeats 1000000 in
theorem back_in (F:Fence) (n:Nat) (h5:F.fn 47) (hro:F.round=none) (a:Option Addr) (len cap:Nat) (w:World) :
  CallsIn F n Tryz.prog 47 #[.slice a len cap] w fun e w'=>e=.returned (.func (.func 74) #[] #[.pointer (some ⟨w.heap.size,0,none⟩)])∧w'=w.alloc (.cells #[.slice a len cap] 83):=by
 refine callsIn_of_wp Tryz.func47 rfl h5 ?_ hro
 simp only[Tryz.ntmps47,List.size_toArray,List.length_cons,List.length_nil,Nat.reduceAdd,Nat.reduceSub,Array.replicate_succ,Array.replicate_zero,List.push_toArray,List.append_toArray,List.nil_append,List.cons_append]
 gi_wp2
 go_ret
 exact⟨rfl,rfl⟩
theorem back_stops (F:Fence) (n:Nat) (h8:F.fn 74) (hro:F.round=none) (hn:1≤n) (Bs n0 cap:Nat) (A:Option Addr) (sp:List Spn) (hreach:sp.length≤1000000) (w:World) (hBs:Bs<w.heap.size) (hn0:n0≤w.heap.size)
  (hc:w.cell? ⟨Bs,0,none⟩=some (.slice A sp.length cap)) (hI:SpAt n0 w A sp) :
  SeqStopsK F n Tryz.prog 74 #[.pointer (some ⟨Bs,0,none⟩)] (fun x:Nat×Spn=>#[Value.int .i64 (x.1:Int),spV x.2]) (KpB n0 Bs) (fun ys=>ys=backL sp) (fun pre=>∃k,k≤sp.length∧pre=(backL sp).take k) sp.length w:=fun l J Jx W hW _ _ hY h0 =>
 back1_in F n h8 hro hn l Bs n0 cap sp.length A sp rfl hreach J Jx hY W ((hW.cell (p:=⟨Bs,0,none⟩) hBs).trans hc) (Nat.lt_of_lt_of_le hBs hW.size) (hI.below (hW.mono hn0)) h0
def spC (x:Spn):List Value:=[.int .i64 x.1,.int .i64 x.2.1,.int .i64 x.2.2]
def Sp3 (W:World) (B:Nat) (x:Spn):Prop:=W.heap[B]?=some (.cells #[.int .i64 x.1,.int .i64 x.2.1,.int .i64 x.2.2] 100 (0,0))
theorem sp3_own {α:Type} (B:Nat) (x:Spn):Own (fun (_:α) W=>Sp3 W B x):=by
 intro s X Y row h hg hrow
 refine(hg.block B (blk_lt h) (fun e'=>?_)).trans h
 obtain⟨o,ho,hc⟩:=hrow B e'.symm
 rw[show X.heap[B]?=_ from h]at ho;cases ho;cases hc
theorem cell_three_new (w:World) (a b c:Value) (t:TypeId):∀j u,[a,b,c][j]?=some u→(w.alloc (.cells #[a,b,c] t)).cell? ((⟨w.heap.size,0,none⟩:Addr).add j)=some u:=by
 intro j u hj
 have hk:=heap_alloc_new w (.cells #[a,b,c] t)
 match j,hj with
 | 0,hj=>simp at hj;subst hj;exact cell_blk hk 0
 | 1,hj=>simp at hj;subst hj;exact cell_blk hk 1
 | 2,hj=>simp at hj;subst hj;exact cell_blk hk 2
theorem span_info:(Tryz.prog.info? 100).map (fun i=>(i.zero,i.size,i.bytes))=some (some (.agg #[.int .i64 0,.int .i64 0,.int .i64 0]),3,24):=by kernel_rfl
def arF (at_:Nat) (x:Spn):Bool:=decide (x.1<(at_:Int))&&decide ((at_:Int)<x.2.2)
def arL (at_:Nat) (pre:List (Nat×Spn)):List Spn:=(pre.map Prod.snd).filter (arF at_)
theorem arL_hit {at_:Nat} (pre:List (Nat×Spn)) {x:Nat×Spn} (h:arF at_ x.2=true):arL at_ (pre++[x])=arL at_ pre++[x.2]:=by simp[arL,h]
theorem arL_miss {at_:Nat} (pre:List (Nat×Spn)) {x:Nat×Spn} (h:arF at_ x.2=false):arL at_ (pre++[x])=arL at_ pre:=by simp[arL,h]
theorem arL_len (at_:Nat) (pre:List (Nat×Spn)):(arL at_ pre).length≤pre.length:=by
 unfold arL
 exact Nat.le_trans (List.length_filter_le _ _) (by simp)
set_option maxRecDepth 100000 in
set_option maxHeartbeats 4000000 in
theorem around_in (F:Fence) (n:Nat) (h0:F.fn 35) (h1:F.fn 47) (h2:F.fn 74) (hro:F.round=none) (hn:6≤n) (mb cap at_:Nat) (A:Option Addr) (sp:List Spn) (w:World)
  (hc:w.cell? ⟨mb,1,none⟩=some (.slice A sp.length cap)) (hreach:sp.length≤1000000) (hI:SpAt w.heap.size w A sp) (hat:at_≤1000000) :
  CallsIn F n Tryz.prog 35 #[.pointer (some ⟨mb,0,none⟩),.int .i64 (at_:Int)] w fun e w'=>∃v,e=.returned v∧w'.ownsRow w.heap.size 100 3 v (arL at_ (backL sp)).length ((arL at_ (backL sp)).flatMap spC)∧Below w.heap.size w w':=by
 have hn1:1≤n:=by omega
 obtain⟨i0,hi,hz0,hz1,hz2⟩:=info_parts span_info
 have hc1:∀o1 o2,((w.alloc o1).alloc o2).cell? ⟨mb,1,none⟩=some (.slice A sp.length cap):=fun o1 o2=>by
  have hb:Below w.heap.size w ((w.alloc o1).alloc o2):=((Below.refl _ w).alloc (Nat.le_refl _) _).alloc (by simp) _
  exact(hb.cell (p:=⟨mb,1,none⟩) (World.block_lt_of_cell? w _ hc)).trans hc
 refine callsIn_of_wp_marks Tryz.func35 rfl h0 ?_ hro
 simp only[Tryz.ntmps35,List.size_toArray,List.length_cons,List.length_nil,Nat.reduceAdd,Nat.reduceSub,Array.replicate_succ,Array.replicate_zero,List.push_toArray,List.append_toArray,List.nil_append,List.cons_append]
 gi_wp2_with (gi_at_call 47;refine(back_in F (n-1) h1 hro _ _ _ _).mono ?_;rintro e w' ⟨rfl,rfl⟩)
 have bA:=((Boxed.new w 3 (.int .i64 (at_:Int))).alloc (.cells #[.slice none 0 0] 83)).alloc (.cells #[.slice A sp.length cap] 83)
 have bO:=(Boxed.new (w.alloc (.cells #[.int .i64 (at_:Int)] 3)) 83 (.slice none 0 0)).alloc (.cells #[.slice A sp.length cap] 83)
 have bB:=Boxed.new ((w.alloc (.cells #[.int .i64 (at_:Int)] 3)).alloc (.cells #[.slice none 0 0] 83)) 83 (.slice A sp.length cap)
 simp only[World.size_alloc]at bO bB
 have hB0:Below w.heap.size w (((w.alloc (.cells #[.int .i64 (at_:Int)] 3)).alloc (.cells #[.slice none 0 0] 83)).alloc (.cells #[.slice A sp.length cap] 83)):=(((Below.refl _ w).alloc (Nat.le_refl _) _).alloc (by simp) _).alloc (by simp;omega) _
 have hsz:(((w.alloc (.cells #[.int .i64 (at_:Int)] 3)).alloc (.cells #[.slice none 0 0] 83)).alloc (.cells #[.slice A sp.length cap] 83)).heap.size=w.heap.size+3:=by simp
 obtain⟨W0,hW0⟩:∃W0,((w.alloc (.cells #[.int .i64 (at_:Int)] 3)).alloc (.cells #[.slice none 0 0] 83)).alloc (.cells #[.slice A sp.length cap] 83)=W0:=⟨_,rfl⟩
 rw[hW0]at bA bO bB hB0 hsz ⊢
 clear hW0
 obtain⟨z,hz⟩:∃z,w.heap.size=z:=⟨_,rfl⟩
 rw[hz]at bA bO bB hB0 hsz hI ⊢
 have HZ:=hide hz
 clear hz hc1
 refine wpIn_rangeFunc_ownH hro hn1 (gf:=74) (lb:=#[.pointer (some ⟨z+1+1,0,none⟩)]) rfl h2 (enters_of Tryz.func74 (by kernel_rfl) rfl)
  (back_stops F (n-1) h2 hro (by omega) (z+1+1) z cap A sp hreach W0 (by omega) (by omega) bB.cell (hI.below hB0)) kpB_t (fun W l o o' hl ho h1 h2=>⟨belowK_b (w:=W0) (by omega) W l o o' hl ho h1 h2,fun hlt=>World.putObj_heap_other (by omega)⟩) (Below.refl _ _) (fun _=>rfl)
  (fun pre W=>((∃v,Boxed W (z+1) 83 v∧W.ownsRow z 100 3 v (arL at_ pre).length ((arL at_ pre).flatMap spC)∧True)∧(Boxed W z 3 (.int .i64 (at_:Int))∧Boxed W (z+1+1) 83 (.slice A sp.length cap)))∧Below z w W)
  (fun _ _ _=>False)
  (OwnFrom.and (OwnFrom.and (Own.from (holdsRow_own z (z+1) 83 100 3 (fun pre=>(arL at_ pre).length) (fun pre=>(arL at_ pre).flatMap spC) (fun _ _=>True)) _) (OwnFrom.and (Own.from (boxed_own _ _ _) _) (Own.from (boxed_own _ _ _) _))) (ownFrom_below (Nat.le_of_eq HZ.out.symm) (by omega)))
  (fun _ _ _ _ _ hs _ _=>hs)
  ⟨⟨⟨_,bO,World.ownsRow_nil _ _ _ _,trivial⟩,bA,bB⟩,hB0⟩
  (fun x a' W=>∃Bx,z+1+1<Bx∧Sp3 W Bx x.2∧a'={ tmps:=#[.pointer (some ⟨mb,0,none⟩),.int .i64 (at_:Int),undef,.pointer (some ⟨z,0,none⟩),.slice none 0 0,.pointer (some ⟨z+1,0,none⟩),undef,.pointer (some ⟨Bx,0,none⟩),.pointer (some ⟨mb,0,none⟩),.pointer (some ⟨mb,0,none⟩),.pointer (some ⟨mb,1,none⟩),.slice A sp.length cap,.func (.func 74) #[] #[.pointer (some ⟨z+1+1,0,none⟩)],.int .i64 (x.1:Int),spV x.2,undef,undef,undef,undef,undef,undef,undef,undef,undef,undef,undef,undef,undef,undef,undef],defers:=[] })
  (fun x a' _ X Y row hs hg hr=>by obtain⟨Bx,q1,q2,q3⟩:=hs;exact⟨Bx,q1,sp3_own (α:=Unit) Bx x.2 () X Y row q2 hg (fun r e=>(hr r e).2),q3⟩)
  ?assign ?body ?done ?stop
 case assign =>
  rintro l pre x W K ⟨⟨⟨v,bO1,hrow,_⟩,bA1,bB1⟩,hB1⟩ hK
  unfold spV
  gi_wp2
  have hzW:z≤W.heap.size:=by have:=bA1.lt;omega
  exact hK _ _ ((KeepsOthers.alloc _ _).from _) ⟨(Below.refl _ W).alloc hzW _,fun hl=>Below.heap_alloc W _ _ hl⟩ ⟨⟨⟨v,bO1.alloc _,hrow.alloc _,trivial⟩,bA1.alloc _,bB1.alloc _⟩,hB1.alloc hzW _⟩ ⟨W.heap.size,bB1.lt,heap_alloc_new W _,rfl⟩
 case body =>
  rintro l pre x a' W hl ⟨r,hr⟩ ⟨⟨⟨v,bO1,hrow,_⟩,bA1,bB1⟩,hB1⟩ ⟨Bx,hBx,bX,rfl⟩ hlt
  have cA:=bA1.cell
  have cO:=bO1.cell
  have cX0:W.cell? ⟨Bx,0,none⟩=some (.int .i64 x.2.1):=cell_blk bX 0
  have cX1:W.cell? ⟨Bx,1,none⟩=some (.int .i64 x.2.2.1):=cell_blk bX 1
  have cX2:W.cell? ⟨Bx,2,none⟩=some (.int .i64 x.2.2.2):=cell_blk bX 2
  have hpl:=arL_len at_ pre
  by_cases hF:arF at_ x.2=true
  ·obtain⟨q1,q2⟩:x.2.1<(at_:Int)∧(at_:Int)<x.2.2.2:=by simpa [arF]using hF
   gi_wp2_with (gi_at_builtin;refine wpListIn_append_own _ rfl _ _ 83 rfl z 100 i0 (.agg #[.int .i64 0,.int .i64 0,.int .i64 0]) 3 24 Tryz.underlying83 hi hz0 hz1 hz2 rfl (by decide) _ _ _ rfl (hrow.alloc _) ⟨W.heap.size,0,none⟩ 1 1 (spC x.2) rfl rfl (cell_three_new _ _ _ _ _) (by simp[spC,Value.oneCell']) (by unfold maxLen;omega) (by omega) (by have:=bA1.lt;simp;omega) ?_;intro v' w1 hown' hgrow _;obtain⟨g',cap',rfl⟩:=ownsRow_succ hown';obtain⟨hv1,hv2,hr2,hk2,hb2⟩:=bO1.appended (by decide) hrow (by have:=bA1.lt;omega) (by omega) hown' hgrow;have hc1:=hv1.cell;have hf1:=hv1.frozen)
   have bA2:=((bA1.alloc _).kept hgrow (bA1.not_row (by decide) hrow)).other (B':=z+1) (by omega) (.slice (some ⟨g',0,none⟩) ((arL at_ pre).length+1) cap')
   have bB2:=((bB1.alloc _).kept hgrow (bB1.not_row (by decide) hrow)).other (B':=z+1) (by omega) (.slice (some ⟨g',0,none⟩) ((arL at_ pre).length+1) cap')
   exact⟨hk2.from _,⟨hb2,fun _=>Eq.trans bB2 (Eq.symm bB1)⟩,⟨⟨_,hv2,by rw[arL_hit pre hF,List.length_append,List.flatMap_append];simpa using hr2,trivial⟩,bA2,bB2⟩,hB1.trans hb2⟩
  ·have hF2:arF at_ x.2=false:=by simpa using hF
   by_cases q1:x.2.1<(at_:Int)
   ·have q2:¬((at_:Int)<x.2.2.2):=by
     intro h
     exact hF (by simp[arF,q1,h])
    gi_wp2
    exact⟨KeepsFrom.refl _ _,kpB_refl _ _ _,⟨⟨v,bO1,by rw[arL_miss pre hF2];exact hrow⟩,bA1,bB1⟩,hB1⟩
   ·gi_wp2
    exact⟨KeepsFrom.refl _ _,kpB_refl _ _ _,⟨⟨v,bO1,by rw[arL_miss pre hF2];exact hrow⟩,bA1,bB1⟩,hB1⟩
 case done =>
  rintro D zs W hD rfl ⟨⟨⟨v,bO1,hrow,_⟩,bA1,bB1⟩,hB1⟩ hK
  have hc:=bO1.cell
  gi_wp2
  refine⟨by simp,.inl ⟨_,_,rfl,run_takeDeferred hK,?_⟩⟩
  rw[HZ.out]
  exact⟨_,results_tmp rfl _ _ _,v,rfl,ownsRow_putObj hrow _ hK rfl,hB1.trans (belowK_b (w:=W0) (by omega) W D _ _ hD hK rfl rfl)⟩
 case stop =>
  rintro D c pre W _ _ h _
  exact h.elim
theorem arL_back (at_:Nat) (sp:List Spn):arL at_ (backL sp)=arP sp at_:=by
 unfold arL arP
 rw[backL_snd]
 rfl
theorem around_any (mb cap at_:Nat) (A:Option Addr) (sp:List Spn) (w:World) (hc:w.cell? ⟨mb,1,none⟩=some (.slice A sp.length cap)) (hreach:sp.length≤1000000) (hI:Hid (SpAt w.heap.size w A sp)) (hat:at_≤1000000) :
  Calls Tryz.prog 35 #[.pointer (some ⟨mb,0,none⟩),.int .i64 (at_:Int)] w fun e w'=>∃(B:Option Addr) (n c:Nat),e=.returned (.slice B n c)∧n=(arP sp at_).length∧Hid (w'.ownsRow w.heap.size 100 3 (.slice B n c) n ((arP sp at_).flatMap spC))∧Hid (Below w.heap.size w w'):=by
 refine(callsIn_wide (n:=6)).1 ((around_in Fence.wide 6 trivial trivial trivial rfl (by omega) mb cap at_ A sp w hc hreach hI.out hat).mono ?_)
 rintro e w' ⟨v,rfl,ho,hb⟩
 rw[arL_back]at ho
 obtain⟨B,c,rfl,_,_⟩:=own_form ho
 exact⟨B,_,c,rfl,rfl,ho,hb⟩
end Go.Proofs.YtomppgohoplemaaGreat
namespace Go.Proofs.YtomppgohoplemaaGreat
open Go.RowKit Go.Maps
def nD (n:Nat):List Value:=[.int .i64 (n:Int)]
structure MkS where
 mb:Nat
 sg:Nat
 res:Nat
 l:Sl XL
 sp:Sl Spn
 hs:Sl Nat
def MkS.cs (m:MkS):List Value:=[m.l.val,m.sp.val,m.hs.val,.int .i64 (m.res:Int),.pointer (some ⟨m.sg,0,none⟩)]
def MkS.e (m:MkS):SidE:=⟨m.l.l.map XL.x,m.hs.l,m.res,m.sp.l⟩
structure MkIn (w:World) (m:MkS):Prop where
 blk:w.heap[m.mb]?=some (.cells m.cs.toArray 97 (0,0))
 l:Row w 5 XL.cs m.l
 lab:∀x∈m.l.l,Row w 1 uD x.l
 sp:SpAt w.heap.size w m.sp.at_ m.sp.l
 hs:Row w 1 nD m.hs
theorem MkIn.below {w w':World} {m:MkS} (h:MkIn w m) (hb:Below w.heap.size w w'):MkIn w' m :=
 ⟨(hb.block _ (blk_lt h.blk)).trans h.blk,h.l.below hb,fun x hx=>(h.lab x hx).below hb,fun k x hx=>by
  obtain⟨b,off,e,hlt,r⟩:=h.sp.below hb k x hx
  exact⟨b,off,e,Nat.lt_of_lt_of_le hlt hb.size,r⟩,h.hs.below hb⟩
structure MkOk (m:MkS):Prop where
 n:m.l.l.length≤1000000
 hl:m.hs.l.length=m.l.l.length
 sl:m.sp.l.length≤1000000
 sp:∀x∈m.sp.l,0≤x.1∧x.1<x.2.2∧x.2.2<(m.l.l.length:Int)∧x.2.1≤x.2.2
 hb:∀h∈m.hs.l,h≤1000000000
 rs:m.res≤1000000
 lb:∀x∈m.l.l,x.l.l.length≤1000000
theorem xAt_some {m:MkS} {i:Nat} {y:XL} (h:m.l.l[i]?=some y):xAt m.e.l i=y.x:=by
 unfold xAt MkS.e
 rw[List.getD_eq_getElem?_getD,List.getElem?_map,h]
 rfl
set_option maxRecDepth 100000 in
set_option maxHeartbeats 1600000 in
theorem below_any (m:MkS) (i:Nat) (y:XL) (h:Nat) (e2 e3:Int) (w:World) (hm:Hid (MkIn w m)) (hy:m.l.l[i]?=some y) (hh:m.hs.l[i]?=some h) (hb:h≤1000000000) (hn:m.l.l.length≤1000000) (hlen:m.hs.l.length≤1000000) :
  Calls Tryz.prog 49 #[.pointer (some ⟨m.mb,0,none⟩),.agg #[.int .i64 (i:Int),.int .i64 e2,.int .i64 e3]] w fun e w'=>e=.returned (.int .i64 ((if y.code=4 then h-1 else h:Nat):Int))∧Hid (Below w.heap.size w w'):=by
 obtain⟨W,hW,hb1,hx1,hs1⟩:=box_new w #[.int .i64 (i:Int),.int .i64 e2,.int .i64 e3] 100
 have hm1:=hm.out.below hb1
 have hi1:i<m.l.l.length:=(List.getElem?_eq_some_iff.1 hy).1
 have hi2:i<m.hs.l.length:=(List.getElem?_eq_some_iff.1 hh).1
 have hi3:(i:Int)<(m.l.l.length:Int):=by omega
 have hi4:(i:Int)<(m.hs.l.length:Int):=by omega
 have c0:W.cell? ⟨m.mb,0,none⟩=some m.l.val:=cell_blk hm1.blk 0
 have c2:W.cell? ⟨m.mb,2,none⟩=some m.hs.val:=cell_blk hm1.blk 2
 have d0:W.cell? ⟨w.heap.size,0,none⟩=some (.int .i64 (i:Int)):=cell_blk hx1 0
 obtain⟨ad,ha,_,k0,_⟩:=hm1.l.at_ (fun _=>rfl) hy
 obtain⟨ae,he,_,g0,_⟩:=hm1.hs.at_ (fun _=>rfl) hh
 have y0:W.cell? (ad.add (i*5))=some (.int .i64 y.code):=k0 _ rfl (by omega)
 have z0:W.cell? (ae.add i)=some (.int .i64 (h:Int)):=by have:=g0 _ rfl (by omega);rw[Nat.mul_one]at this;exact this
 unfold Sl.val at c0 c2
 rw[ha]at c0
 rw[he]at c2
 have HW:=hide hW;have HB:Hid (Below w.heap.size w W):=hb1
 obtain⟨bg,hbg⟩:∃bg,w.heap.size=bg:=⟨_,rfl⟩
 rw[hbg]at d0
 have HBG:=hide hbg
 clear hW hb1 hx1 hs1 hm1 k0 g0 ha he hy hh hbg
 by_cases h4:y.code=4
 ·rw[if_pos h4]
  have h4b:(y.code==4)=true:=by simpa using h4
  rcases h with _|h
  ·clear h4
   go_enter Tryz.func49,Tryz.ntmps49
   go_upto_region 1 with fail
   rw[HW.out,HBG.out]
   go_wp2_with fail
   go_quiet (fail)
   go_wp2_with fail
   go_quiet (fail)
   go_wp2_with fail
   go_ret
   first|exact⟨rfl,below_dr HB.out _⟩|exact⟨rfl,below_dr (below_dr HB.out _) _⟩
  ·have hle:(0:Int)≤((h+1:Nat):Int)-1:=by omega
   clear h4
   go_enter Tryz.func49,Tryz.ntmps49
   go_upto_region 1 with fail
   rw[HW.out,HBG.out]
   go_wp2_with fail
   go_quiet (fail)
   go_wp2_with fail
   go_quiet (fail)
   go_wp2_with fail
   go_ret
   first|exact⟨rfl,below_dr HB.out _⟩|exact⟨rfl,below_dr (below_dr HB.out _) _⟩
 ·rw[if_neg h4]
  have h4b:(y.code==4)=false:=by simpa using h4
  clear h4
  go_enter Tryz.func49,Tryz.ntmps49
  go_upto_region 1 with fail
  rw[HW.out,HBG.out]
  go_wp2_with fail
  go_quiet (fail)
  go_wp2_with fail
  go_quiet (fail)
  go_wp2_with fail
  go_ret
  first|exact⟨rfl,below_dr HB.out _⟩|exact⟨rfl,below_dr (below_dr HB.out _) _⟩
set_option maxRecDepth 100000 in
set_option maxHeartbeats 1600000 in
theorem many_any (m:MkS) (i:Nat) (y:XL) (e2 e3:Int) (w:World) (hm:Hid (MkIn w m)) (hy:m.l.l[i]?=some y) (hn:m.l.l.length≤1000000) :
  Calls Tryz.prog 50 #[.pointer (some ⟨m.mb,0,none⟩),.agg #[.int .i64 (i:Int),.int .i64 e2,.int .i64 e3]] w fun e w'=>e=.returned (.int .i64 ((if y.a=64 then 0 else 1:Nat):Int))∧Hid (Below w.heap.size w w'):=by
 obtain⟨W,hW,hb1,hx1,hs1⟩:=box_new w #[.int .i64 (i:Int),.int .i64 e2,.int .i64 e3] 100
 have hm1:=hm.out.below hb1
 have hi1:i<m.l.l.length:=(List.getElem?_eq_some_iff.1 hy).1
 have hi3:(i:Int)<(m.l.l.length:Int):=by omega
 have c0:W.cell? ⟨m.mb,0,none⟩=some m.l.val:=cell_blk hm1.blk 0
 have d0:W.cell? ⟨w.heap.size,0,none⟩=some (.int .i64 (i:Int)):=cell_blk hx1 0
 obtain⟨ad,ha,_,_,kj⟩:=hm1.l.at_ (fun _=>rfl) hy
 have y1:W.cell? ⟨(ad.add (i*5)).block,(ad.add (i*5)).off+1,none⟩=some (.int .u64 (y.a:Int)):=kj 1 (by omega) (by omega) _ rfl
 unfold Sl.val at c0
 rw[ha]at c0
 have HW:=hide hW;have HB:Hid (Below w.heap.size w W):=hb1
 obtain⟨bg,hbg⟩:∃bg,w.heap.size=bg:=⟨_,rfl⟩
 rw[hbg]at d0
 have HBG:=hide hbg
 clear hW hb1 hx1 hs1 hm1 kj ha hy hbg
 by_cases h4:y.a=64
 ·rw[if_pos h4]
  have h4b:((y.a:Int)==64)=true:=by simp;omega
  clear h4
  go_enter Tryz.func50,Tryz.ntmps50
  go_upto_region 1 with fail
  rw[HW.out,HBG.out]
  go_wp2_with fail
  go_quiet (fail)
  go_wp2_with fail
  go_ret
  exact⟨rfl,below_dr HB.out _⟩
 ·rw[if_neg h4]
  have h4b:((y.a:Int)==64)=false:=by simp;omega
  clear h4
  go_enter Tryz.func50,Tryz.ntmps50
  go_upto_region 1 with fail
  rw[HW.out,HBG.out]
  go_wp2_with fail
  go_quiet (fail)
  go_wp2_with fail
  go_ret
  exact⟨rfl,below_dr HB.out _⟩
def jV (j:Jmp):Value:=.agg #[.int .i64 (j.dest:Int),.int .i64 (j.keep:Int),.int .i64 (j.h:Int)]
theorem store3J {W:World} {g:Nat} {a b c:Value} {t:TypeId} (h:W.heap[g]?=some (.cells #[a,b,c] t (0,0))) (x y z:Value) :
  ∃W',(((W.setCell ⟨g,0,none⟩ x).setCell ⟨g,1,none⟩ y).setCell ⟨g,2,none⟩ z)=W'∧W'.heap[g]?=some (.cells #[x,y,z] t (0,0))∧Only [g] W W':=by
 refine⟨_,rfl,?_,?_⟩
 ·rw[setCell_blk (setCell_blk (setCell_blk h 0 x) 1 y) 2 z]
  simp
 ·exact((Only.setCell W (p:=⟨g,0,none⟩) (by simp) x).trans (Only.setCell _ (p:=⟨g,1,none⟩) (by simp) y)).trans (Only.setCell _ (p:=⟨g,2,none⟩) (by simp) z)
set_option maxRecDepth 100000 in
set_option maxHeartbeats 1600000 in
theorem jump_out (m:MkS) (A:Option Addr) (n c k:Nat) (w:World) (hm:Hid (MkIn w m)) (hk:n≤k) (hk2:k≤4294967295) :
  Calls Tryz.prog 37 #[.pointer (some ⟨m.mb,0,none⟩),.slice A n c,.int .i64 (k:Int)] w fun e w'=>e=.returned (jV ⟨m.l.l.length,m.res,0⟩)∧Hid (Below w.heap.size w w'):=by
 obtain⟨W,hW,hb1,hx1,hs1⟩:=box_new w #[.int .i64 0,.int .i64 0,.int .i64 0] 55
 have hm1:=hm.out.below hb1
 have c0:W.cell? ⟨m.mb,0,none⟩=some m.l.val:=cell_blk hm1.blk 0
 have c3:W.cell? ⟨m.mb,3,none⟩=some (.int .i64 (m.res:Int)):=cell_blk hm1.blk 3
 unfold Sl.val at c0
 obtain⟨bg,hbg⟩:∃bg,w.heap.size=bg:=⟨_,rfl⟩
 rw[hbg]at hx1
 have d0:=cell_blk hx1 0;have d1:=cell_blk hx1 1;have d2:=cell_blk hx1 2
 have f0:=frozen_blk hx1 0;have f1:=frozen_blk hx1 1;have f2:=frozen_blk hx1 2
 simp at d0 d1 d2
 obtain⟨W6,hW6,hk6,ho6⟩:=store3J hx1 (.int .i64 (m.l.l.length:Int)) (.int .i64 (m.res:Int)) (.int .i64 0)
 have t0:=cell_blk hk6 0;have t1:=cell_blk hk6 1;have t2:=cell_blk hk6 2
 simp at t0 t1 t2
 have HB6:Hid (Below w.heap.size w W6):=hb1.trans (ho6.below hb1.size (by simp;omega))
 have HW6:=hide hW6
 have HW:=hide hW
 have HBG:=hide hbg
 have hlt:¬((k:Int)<(n:Int)):=by omega
 have hnb:bg<W.heap.size:=blk_lt hx1
 clear hW hb1 hx1 hs1 hm1 hbg hW6 hk6 ho6
 go_enter Tryz.func37,Tryz.ntmps37
 go_upto_region 1 with fail
 rw[HW.out,HBG.out]
 go_wp2_with fail
 go_region
 all_goals
  go_wp2_with fail
  rw[HW6.out]
  refine bodyPost_ret (v:=jV ⟨m.l.l.length,m.res,0⟩) (by unfold jV;simp[results,Tryz.results37,go_sem,t0,t1,t2]) rfl ?_
  exact⟨rfl,HB6.out.drew⟩
end Go.Proofs.YtomppgohoplemaaGreat
