import Derived.Test.YtomppgohoplemaaGreatNAC
import Derived.Test.YtomppgohoplemaaGreatNAB
import Derived.Test.YtomppgohoplemaaGreatNAK
import Derived.Maps.RangeWalk
import Derived.Deep.QuietTactic
import Derived.Deep.RegionHeld3
import Derived.Deep.RegionLaw
import Derived.Deep.AppendLies
import Derived.Deep.DeepCutAuto
import Derived.BigQuiet
import Derived.IntWalk
import Derived.Outline
import Derived.Test.YtomppgohoplemaaGreatRows
import Derived.Test.YtomppgohoplemaaGreatNAD
set_option linter.unusedVariables false
namespace Go.Proofs.YtomppgohoplemaaGreat
open Go.RowKit
def Lies (w:World) (v v':Value):Prop:=v'.ownBlock=v.ownBlock∨∃g,v'.ownBlock=some g∧w.heap.size≤g
theorem Lies.refl (w:World) (v:Value):Lies w v v:=.inl rfl
theorem Lies.trans {w w1:World} {v v1 v2:Value} (h:Lies w v v1) (k:Lies w1 v1 v2) (hs:w.heap.size≤w1.heap.size):Lies w v v2:=by
 rcases k with k|⟨g,k,hg⟩
 ·rcases h with h|⟨g,h,hg⟩
  ·exact .inl (k.trans h)
  ·exact .inr ⟨g,k.trans h,hg⟩
 ·exact .inr ⟨g,k,by omega⟩
theorem Grows.only {w w':World} {v v':Value} (h:Grows w w' v v'):Only v.ownBlock.toList w w' :=
 ⟨h.by_.os,h.by_.tape,h.by_.output,h.by_.size,fun k hk hn=>h.by_.block k hk (fun e=>hn (by rw[←e];simp))⟩
theorem Lies.apart {w:World} {v v':Value} {g:Nat} (h:Lies w v v') (hg:v.ownBlock≠some g) (hlt:g<w.heap.size):v'.ownBlock≠some g:=by
 rcases h with h|⟨k,h,hk⟩
 ·rw[h];exact hg
 ·rw[h];intro e;injection e with e;omega
theorem wpList_push_n {P:Program} {w:World} {ops:Array Oper} {rest:List Oper} {o:Oper} {a:Act} {Q:Exit→Act→World→Prop} (hgd:o.guard=none) (s x:Operand) {t:TypeId}
  (ho:o.op=.call { callee:=.builtin .append,args:=#[s,x],argTypes:=#[t,t] })
  (base:Nat) {e:TypeId} {size bytes:Nat} (hE:IsElem P t e size bytes)
  (v:Value) (n:Nat) (xs:List Value) (hs:a.eval s=v) (w0:World) (us:List Value) (e':TypeId) (hw:w=w0.alloc (.cells us.toArray e')) (hown:w0.ownsRow base e size v n xs)
  (hx:a.eval x=.slice (some ⟨w0.heap.size,0,none⟩) 1 1) (hl:us.length=size) (h1:∀u∈us,u.oneCell'=true)
  (hroom:Room n 1 bytes) (hbase:base≤w0.heap.size)
  (h:∀v' w',w'.ownsRow base e size v' (n+1) (xs++us)→Grows w0 w' v v'→wpList P ops Q rest (a.put o.dst v') w'):wpList P ops Q (o::rest) a w:=by
 subst hw
 have hr:Reads (w0.alloc (.cells us.toArray e')) (w0.heap.size+1) size (some ⟨w0.heap.size,0,none⟩) 1 us:=by
  have:=Reads.of_new w0 us e' us.length rfl
  refine⟨by rw[hl];omega,fun _=>⟨_,rfl,by simp,fun j u hu=>?_⟩⟩
  obtain⟨ad,h2,_,h3⟩:=this.2 (by
   rcases Nat.eq_zero_or_pos us.length with h0|h0
   ·have:us=[]:=List.eq_nil_of_length_eq_zero h0
    subst this
    simp at hu
   ·exact h0)
  injection h2 with h2
  subst h2
  exact h3 j u hu
 exact wpList_append_any hgd s x ho base hE v n xs hs (hown.alloc _) (w0.heap.size+1) _ 1 1 us hx hr h1 hroom (by simp;omega) fun v' w' h2 h3=>h v' w' h2 h3.alloc_first
theorem step_push {P:Program} {w:World} {ops:Array Oper} {o:Oper} {a:Act} {K:Act→World→Prop} {Q:Exit→Act→World→Prop} {E:Prop} (hgd:o.guard=none) (s x:Operand) {t:TypeId}
  (ho:o.op=.call { callee:=.builtin .append,args:=#[s,x],argTypes:=#[t,t] })
  (base:Nat) {e:TypeId} {size bytes:Nat} (hE:IsElem P t e size bytes)
  (v:Value) (n:Nat) (xs:List Value) (hs:a.eval s=v) (w0:World) (us:List Value) (e':TypeId) (hw:w=(w0.alloc (.cells us.toArray e')).drew) (hown:w0.ownsRow base e size v n xs)
  (hx:a.eval x=.slice (some ⟨w0.heap.size,0,none⟩) 1 1) (hl:us.length=size) (h1:∀u∈us,u.oneCell'=true)
  (hroom:Room n 1 bytes) (hbase:base≤w0.heap.size)
  (h:∀v' w',w'.ownsRow base e size v' (n+1) (xs++us)→Grows w0 w' v v'→K (a.put o.dst v') w') :
  if Region.wanted o (yielded ops a.tmps)=true then Oper.wp P o a w K Q else E:=by
 have hwt:Region.wanted o (yielded ops a.tmps)=true:=by simp[Region.wanted,hgd]
 rw[if_pos hwt]
 subst hw
 have hr:Reads (w0.alloc (.cells us.toArray e')).drew (w0.heap.size+1) size (some ⟨w0.heap.size,0,none⟩) 1 us:=by
  have:=Reads.of_new w0 us e' us.length rfl
  refine⟨by rw[hl];omega,fun _=>⟨_,rfl,by simp,fun j u hu=>?_⟩⟩
  obtain⟨ad,h2,_,h3⟩:=this.2 (by
   rcases Nat.eq_zero_or_pos us.length with h0|h0
   ·have:us=[]:=List.eq_nil_of_length_eq_zero h0
    subst this
    simp at hu
   ·exact h0)
  injection h2 with h2
  subst h2
  exact h3 j u hu
 refine wp_append_any s x ho base hE v n xs hs ((hown.alloc _).drew) (w0.heap.size+1) _ 1 1 us hx hr h1 hroom (by simp;omega) fun v' w' h2 h3=>h v' w' h2 ?_
 have h4:Grows (w0.alloc (.cells us.toArray e')) w' v v':=⟨⟨h3.by_.os,h3.by_.tape,h3.by_.output,h3.by_.size,h3.by_.block⟩,h3.lies⟩
 exact h4.alloc_first
def spanD (x:Int×Int×Int):List Value:=[.int .i64 x.1,.int .i64 x.2.1,.int .i64 x.2.2]
def placeD (x:Nat):List Value:=[.int .i64 (x:Int)]
structure NE (w:World) (nb:Nat) (Al:Option Addr) (n cl:Nat) (vs vo:Value) (s:NS):Prop where
 blk:w.heap[nb]?=some (.cells #[.slice Al n cl,vs,vo,.bool s.closed,.int .i64 (s.deep:Int)] 127 (0,0))
 sp:w.ownsRow (nb+1) 100 3 vs s.spans.length (s.spans.flatMap spanD)
 op:w.ownsRow (nb+1) 3 1 vo s.opn.length (s.opn.flatMap placeD)
 apart:∀g,vs.ownBlock=some g→vo.ownBlock≠some g
structure NW (w w':World) (nb:Nat) (vs vo vs' vo':Value):Prop where
 only:Only (nb::(vs.ownBlock.toList++vo.ownBlock.toList)) w w'
 ls:Lies w vs vs'
 lo:Lies w vo vo'
theorem NW.trans {w w1 w2:World} {nb:Nat} {vs vo vs1 vo1 vs2 vo2:Value} (h:NW w w1 nb vs vo vs1 vo1) (k:NW w1 w2 nb vs1 vo1 vs2 vo2):NW w w2 nb vs vo vs2 vo2:=by
 refine⟨?_,h.ls.trans k.ls h.only.size,h.lo.trans k.lo h.only.size⟩
 refine⟨k.only.os.trans h.only.os,k.only.tape.trans h.only.tape,k.only.output.trans h.only.output,Nat.le_trans h.only.size k.only.size,fun i hi hn=>?_⟩
 refine(k.only.block i (Nat.lt_of_lt_of_le hi h.only.size) fun hx=>hn ?_).trans (h.only.block i hi hn)
 simp only[List.mem_cons,List.mem_append,Option.mem_toList]at hx ⊢
 rcases hx with hx|hx|hx
 ·exact .inl hx
 ·rcases h.ls with e|⟨g,e,hg⟩
  ·exact .inr (.inl (e▸hx))
  ·rw[e]at hx;injection hx with hx;omega
 ·rcases h.lo with e|⟨g,e,hg⟩
  ·exact .inr (.inr (e▸hx))
  ·rw[e]at hx;injection hx with hx;omega
theorem NW.below {w w1:World} {nb:Nat} {vs vo vs1 vo1:Value} {Al:Option Addr} {n cl:Nat} {s:NS} (h:NW w w1 nb vs vo vs1 vo1) (hn:NE w nb Al n cl vs vo s):Below nb w w1:=by
 refine h.only.below (Nat.le_of_lt (blk_lt hn.blk)) fun x hx=>?_
 simp only[List.mem_cons,List.mem_append,Option.mem_toList]at hx
 rcases hx with hx|hx|hx
 ·omega
 ·have:=own_ge hn.sp x hx;omega
 ·have:=own_ge hn.op x hx;omega
theorem NW.cell {w:World} (nb i:Nat) (u vs vo:Value):NW w (w.setCell ⟨nb,i,none⟩ u) nb vs vo vs vo :=
 ⟨Only.setCell w (p:=⟨nb,i,none⟩) (by simp) u,Lies.refl _ _,Lies.refl _ _⟩
theorem int_elem:IsElem Tryz.prog 70 3 1 8:=IsElem.mk' Tryz.underlying70 (z:=.int .i64 0) (by kernel_rfl) rfl (by omega)
theorem span_elem:IsElem Tryz.prog 83 100 3 24:=IsElem.mk' Tryz.underlying83 (z:=.agg #[.int .i64 0,.int .i64 0,.int .i64 0]) (by kernel_rfl) rfl (by omega)
set_option maxHeartbeats 400000 in
theorem top_none (nb:Nat) (Al:Option Addr) (n cl:Nat) (vs vo:Value) (s:NS) (w:World) (h:Hid (NE w nb Al n cl vs vo s)) (h0:s.opn=[]) :
  Calls Tryz.prog 113 #[.pointer (some ⟨nb,0,none⟩)] w fun e w'=>e=.returned (.tuple #[.pointer none,.bool false])∧Hid (Only [] w w'):=by
 obtain⟨A,c,hv,hc1,hc2⟩:=own_form h.out.op
 rw[h0]at hv
 have c2:=cell_blk h.out.blk 2
 simp[hv]at c2
 clear hv h0
 go_enter Tryz.func113,Tryz.ntmps113
 go_wp2_with fail
 go_ret2
 exact⟨rfl,Only.refl _ _⟩
set_option maxHeartbeats 400000 in
theorem top_some (nb:Nat) (Al:Option Addr) (n cl:Nat) (vs vo:Value) (s:NS) (t:Nat) (w:World) (h:Hid (NE w nb Al n cl vs vo s)) (h0:Hid (s.opn.getLast?=some t)) (h64:s.opn.length≤64) (ht:t<s.spans.length) (hl:s.spans.length≤1000000) :
  Calls Tryz.prog 113 #[.pointer (some ⟨nb,0,none⟩)] w fun e w'=>∃g,e=.returned (.tuple #[.pointer (some ⟨g,t*3,none⟩),.bool true])∧Hid (vs.ownBlock=some g)∧Hid (Only [] w w'):=by
 have hpos:0<s.opn.length:=by
  cases hh:s.opn with
  | nil=>have:=h0.out;rw[hh]at this;cases this
  | cons a r=>simp
 obtain⟨go,co,hvo,hbo,hlo⟩:=h.out.op.form hpos
 obtain⟨gs,csp,hvs,hbs,hls⟩:=h.out.sp.form (by omega)
 have hcell:=h.out.op.cells (g:=go) (by rw[hvo];rfl) (s.opn.length-1) (.int .i64 t) (by
  have h1:=flatMap_get (dec:=placeD) (size:=1) (fun _=>rfl) s.opn (s.opn.length-1) 0 t (by rw[←List.getLast?_eq_getElem?];exact h0.out) (by omega)
  simpa [placeD]using h1)
 have c1:=cell_blk h.out.blk 1
 have c2:=cell_blk h.out.blk 2
 simp at c1 c2
 rw[hvs]at c1
 rw[hvo]at c2
 have HVS:=hide hvs;clear hvs hvo
 obtain⟨m,hm⟩:∃m,s.opn.length=m+1:=⟨s.opn.length-1,by omega⟩
 rw[hm]at c2 hcell hpos h64
 clear hm
 simp only[Nat.add_sub_cancel]at hcell
 rw[show Addr.add ⟨go,0,none⟩ m=⟨go,m,none⟩from by unfold Addr.add;split<;>simp_all]at hcell
 have hs1:IntKind.i64.wrap (((m+1:Nat):Int)-1)=m:=by rw[IntWalk.i64_in _ (by omega)];omega
 go_enter Tryz.func113,Tryz.ntmps113
 go_wp2_with fail
 go_quiet (fail)
 go_wp2_with fail
 go_ret2
 exact⟨gs,rfl,by show _=_;rw[HVS.out];rfl,Only.drewN _ _ _⟩
theorem NE.push_op {w w2:World} {nb:Nat} {Al:Option Addr} {n cl:Nat} {vs vo vo':Value} {s:NS} {t:Nat} (h:NE w nb Al n cl vs vo s) (hg:Grows w w2 vo vo') (ho:w2.ownsRow (nb+1) 3 1 vo' (s.opn.length+1) (s.opn.flatMap placeD++[.int .i64 t])) :
  NE (w2.setCell ⟨nb,2,none⟩ vo') nb Al n cl vs vo' { s with opn:=s.opn++[t] }∧NW w (w2.setCell ⟨nb,2,none⟩ vo') nb vs vo vs vo':=by
 have hnb:=blk_lt h.blk
 have hb:=hg.below (Bk:=nb+1) (by omega) (own_ge h.op)
 have hblk:=(hb.block nb (by omega)).trans h.blk
 have hl:Lies w vo vo':=hg.lies
 have hs:=own_only3 h.sp hg.only (fun g hg' hm=>h.apart g hg' (by simpa using hm))
 refine⟨⟨?_,?_,?_,fun g hg'=>hl.apart (h.apart g hg') (own_lt h.sp g hg')⟩,⟨(hg.only.more (by simp;intro x hx;exact .inr (.inr hx))).trans (Only.setCell w2 (p:=⟨nb,2,none⟩) (by simp) _),Lies.refl _ _,hl⟩⟩
 ·rw[setCell_blk hblk];rfl
 ·exact own_only3 hs (Only.setCell (S:=[nb]) w2 (p:=⟨nb,2,none⟩) (by simp) _) (fun g hg'=>by have:=own_ge h.sp g hg';simp;omega)
 ·refine own_cast (own_only3 ho (Only.setCell (S:=[nb]) w2 (p:=⟨nb,2,none⟩) (by simp) _) (fun g hg'=>by have:=own_ge ho g hg';simp;omega)) (by simp) (by simp[placeD])
theorem NE.push_sp {w w2:World} {nb:Nat} {Al:Option Addr} {n cl:Nat} {vs vo vs':Value} {s:NS} {x:Int×Int×Int} (h:NE w nb Al n cl vs vo s) (hg:Grows w w2 vs vs') (ho:w2.ownsRow (nb+1) 100 3 vs' (s.spans.length+1) (s.spans.flatMap spanD++spanD x)) :
  NE (w2.setCell ⟨nb,1,none⟩ vs') nb Al n cl vs' vo { s with spans:=s.spans++[x] }∧NW w (w2.setCell ⟨nb,1,none⟩ vs') nb vs vo vs' vo:=by
 have hnb:=blk_lt h.blk
 have hb:=hg.below (Bk:=nb+1) (by omega) (own_ge h.sp)
 have hblk:=(hb.block nb (by omega)).trans h.blk
 have hl:Lies w vs vs':=hg.lies
 have hs:=own_only3 h.op hg.only (fun g hg' hm=>h.apart g (by simpa using hm) hg')
 refine⟨⟨?_,?_,?_,fun g hg' he=>hl.apart (g:=g) (fun e=>h.apart g e he) (own_lt h.op g he) hg'⟩,⟨(hg.only.more (by simp;intro x hx;exact .inr (.inl hx))).trans (Only.setCell w2 (p:=⟨nb,1,none⟩) (by simp) _),hl,Lies.refl _ _⟩⟩
 ·rw[setCell_blk hblk];rfl
 ·refine own_cast (own_only3 ho (Only.setCell (S:=[nb]) w2 (p:=⟨nb,1,none⟩) (by simp) _) (fun g hg'=>by have:=own_ge ho g hg';simp;omega)) (by simp) (by simp)
 ·exact own_only3 hs (Only.setCell (S:=[nb]) w2 (p:=⟨nb,1,none⟩) (by simp) _) (fun g hg'=>by have:=own_ge h.op g hg';simp;omega)
theorem NE.set_deep {w:World} {nb:Nat} {Al:Option Addr} {n cl:Nat} {vs vo:Value} {s:NS} (h:NE w nb Al n cl vs vo s) (d:Nat):NE (w.setCell ⟨nb,4,none⟩ (.int .i64 (d:Int))) nb Al n cl vs vo { s with deep:=d }:=by
 refine⟨?_,own_only3 h.sp (Only.setCell (S:=[nb]) w (p:=⟨nb,4,none⟩) (by simp) _) (fun g hg'=>by have:=own_ge h.sp g hg';simp;omega),own_only3 h.op (Only.setCell (S:=[nb]) w (p:=⟨nb,4,none⟩) (by simp) _) (fun g hg'=>by have:=own_ge h.op g hg';simp;omega),h.apart⟩
 rw[setCell_blk h.blk];rfl
theorem NE.set_closed {w:World} {nb:Nat} {Al:Option Addr} {n cl:Nat} {vs vo:Value} {s:NS} (h:NE w nb Al n cl vs vo s) (b:Bool):NE (w.setCell ⟨nb,3,none⟩ (.bool b)) nb Al n cl vs vo { s with closed:=b }:=by
 refine⟨?_,own_only3 h.sp (Only.setCell (S:=[nb]) w (p:=⟨nb,3,none⟩) (by simp) _) (fun g hg'=>by have:=own_ge h.sp g hg';simp;omega),own_only3 h.op (Only.setCell (S:=[nb]) w (p:=⟨nb,3,none⟩) (by simp) _) (fun g hg'=>by have:=own_ge h.op g hg';simp;omega),h.apart⟩
 rw[setCell_blk h.blk];rfl
def NPost (w:World) (nb:Nat) (Al:Option Addr) (n cl:Nat) (vs vo:Value) (s':NS) (k:Nat) (e:Ending) (w':World):Prop :=
 ∃vs' vo',e=.returned (.int .i64 (k:Int))∧Hid (NE w' nb Al n cl vs' vo' s')∧Hid (NW w w' nb vs vo vs' vo')
set_option maxHeartbeats 3200000 in
theorem begin_ok (nb:Nat) (Al:Option Addr) (n cl:Nat) (vs vo:Value) (s:NS) (i:Nat) (w:World) (h:Hid (NE w nb Al n cl vs vo s)) (h64:s.opn.length<64) (hl:s.spans.length≤1000000) (hd:s.deep≤64) (hi:i≤1000000) :
  Calls Tryz.prog 71 #[.pointer (some ⟨nb,0,none⟩),.int .i64 i] w (NPost w nb Al n cl vs vo { spans:=s.spans++[((i:Int),-1,-1)],opn:=s.opn++[s.spans.length],closed:=s.closed,deep:=max s.deep (s.opn.length+1) } 0):=by
 obtain⟨Ao,co,rfl,ho1,ho2⟩:=own_form h.out.op
 obtain⟨As,cs,rfl,hs1,hs2⟩:=own_form h.out.sp
 have c1:=cell_blk h.out.blk 1
 have c2:=cell_blk h.out.blk 2
 simp at c1 c2
 have hnb:=blk_lt h.out.blk
 have hroom:Room s.opn.length 1 8:=room_of (by omega) (by omega)
 have hbase:nb+1≤w.heap.size:=by omega
 obtain⟨dm,hdm⟩:∃d,max s.deep (s.opn.length+1)=d:=⟨_,rfl⟩
 rw[hdm]
 have HDM:=hide hdm;clear hdm
 go_enter Tryz.func71,Tryz.ntmps71
 go_upto_region 3 with fail
 go_cut [] (fun wx=>∃vo',Hid (NE wx nb Al n cl (.slice As s.spans.length cs) vo' { s with opn:=s.opn++[s.spans.length] })∧Hid (NW w wx nb (.slice As s.spans.length cs) (.slice Ao s.opn.length co) (.slice As s.spans.length cs) vo'))
 case first =>
  go_region_law (refine step_push (by rfl) _ _ (by rfl) (nb+1) int_elem _ _ _ (by rfl) w [.int .i64 (s.spans.length:Int)] 3 (by rfl) h.out.op (by rfl) rfl (by simp[Value.oneCell']) hroom hbase ?_;intro vo' w2 ho2 hg2;have hb2:=hg2.below hbase (own_ge h.out.op);have hblk2:=(hb2.block nb (by omega)).trans h.out.blk;have d1:=cell_blk hblk2 1;have d2:=cell_blk hblk2 2;simp at d1 d2;have z2:=frozen_blk hblk2 2;obtain⟨Ao2,co2,rfl,ho3,ho4⟩:=own_form ho2)
  all_goals
   go_wp2_with fail
   go_meet
   obtain⟨k1,k2⟩:=h.out.push_op hg2 ho2
   exact⟨_,k1,k2⟩
 case rest =>
  obtain⟨vo',h1,hw1⟩:=hcut
  obtain⟨Ao1,co1,rfl,ho3,ho4⟩:=own_form h1.out.op
  have e1:=cell_blk h1.out.blk 1
  simp at e1
  have hnb1:=blk_lt h1.out.blk
  have hroom3:Room s.spans.length 1 24:=room_of (by omega) (by omega)
  have hbase1:nb+1≤wc.heap.size:=by omega
  clear c1 c2
  go_upto_region 5 with (at_builtin;refine wpList_push_n rfl _ _ rfl (nb+1) span_elem _ s.spans.length (s.spans.flatMap spanD) rfl wc [.int .i64 (i:Int),.int .i64 (-1),.int .i64 (-1)] 100 rfl h1.out.sp rfl rfl (by simp[Value.oneCell']) hroom3 hbase1 ?_;intro vs' w2 hs2' hg2;have hb2:=hg2.below hbase1 (own_ge h1.out.sp);have hblk2:=(hb2.block nb (by omega)).trans h1.out.blk;have d1:=cell_blk hblk2 1;simp at d1;have z2:=frozen_blk hblk2 1;obtain⟨As2,cs2,rfl,hs3,hs4⟩:=own_form hs2')
  obtain⟨k1,k2⟩:=h1.out.push_sp (x:=((i:Int),-1,-1)) hg2 hs2'
  have hs5:(As2,s.spans.length+1,cs2)=(As2,s.spans.length+1,cs2):=rfl
  clear hs5
  generalize hw3:w2.setCell ⟨nb,1,none⟩ (.slice As2 (s.spans.length+1) cs2)=w3 at k1 k2 ⊢
  clear hw3
  have K1:=hide k1;clear k1
  have K2:=hide k2;clear k2
  have f2:=cell_blk K1.out.blk 2
  have f4:=cell_blk K1.out.blk 4
  simp at f2 f4
  have z4:=frozen_blk K1.out.blk 4
  clear d1 z2 hblk2 e1
  have fin:∀d:Nat,NPost w nb Al n cl (.slice As s.spans.length cs) (.slice Ao s.opn.length co) { spans:=s.spans++[((i:Int),-1,-1)],opn:=s.opn++[s.spans.length],closed:=s.closed,deep:=d } 0 (.returned (.int .i64 0)) (w3.setCell ⟨nb,4,none⟩ (.int .i64 (d:Int))).drew:=by
   intro d
   have h5:=K1.out.set_deep d
   have h6:=(hw1.out.trans K2.out).trans (NW.cell nb 4 (.int .i64 (d:Int)) _ _)
   exact⟨_,_,rfl,⟨h5.blk,h5.sp,h5.op,h5.apart⟩,⟨⟨h6.only.os,h6.only.tape,h6.only.output,h6.only.size,h6.only.block⟩,h6.ls,h6.lo⟩⟩
  have hdm':=HDM.out
  by_cases hle:s.deep<s.opn.length+1
  ·obtain rfl:dm=s.opn.length+1:=by omega
   have F:=hide (fin (s.opn.length+1))
   simp only[Int.natCast_add,Int.natCast_one]at F
   clear fin hdm'
   go_region
   all_goals
    go_wp2_with fail
    go_ret
    first|exact F.out|(rw[show max (s.deep:Int) ((s.opn.length:Int)+1)=(s.opn.length:Int)+1 by omega];exact F.out)
  ·obtain rfl:dm=s.deep:=by omega
   have hle':s.opn.length+1≤s.deep:=by omega
   have F:=hide (fin s.deep)
   clear fin hdm' hle
   go_region
   all_goals
    go_wp2_with fail
    go_ret
    first|exact F.out|(rw[show max (s.deep:Int) ((s.opn.length:Int)+1)=(s.deep:Int) by omega];exact F.out)
end Go.Proofs.YtomppgohoplemaaGreat
