import Derived.Test.YtmekgpdfiimofaaGreatDoorVAB
import Derived.Test.YtmekgpdfiimofaaGreatDoorVAH
import Derived.Maps.RangeWalk
import Derived.Deep.QuietTactic
import Derived.Deep.RegionHeld3
import Derived.Deep.RegionLaw
import Derived.Deep.AppendLies
import Derived.Deep.DeepCutAuto
import Derived.BigQuiet
import Derived.IntWalk
import Derived.Outline
set_option linter.unusedVariables false
namespace Go.Proofs.YtmekgpdfiimofaaGreatDoor
open Go.RowKit
def Lies (w:World) (v v':Value):Prop:=v'.ownBlock=v.ownBlock∨∃g,v'.ownBlock=some g∧w.heap.size≤g
theorem Lies.refl (w:World) (v:Value):Lies w v v:=.inl rfl
theorem Lies.trans {w w1:World} {v v1 v2:Value} (h:Lies w v v1) (k:Lies w1 v1 v2) (hs:w.heap.size≤w1.heap.size):Lies w v v2:=by
 rcases k with k|⟨g,k,hg⟩
 ·rcases h with h|⟨g,h,hg⟩
  ·exact .inl (k.trans h)
  ·exact .inr ⟨g,k.trans h,hg⟩
 ·exact .inr ⟨g,k,by omega⟩
theorem Grows.only {w w':World} {v v':Value} (h:Grows w w' v v'):Only v.ownBlock.toList w w' :=
 ⟨h.by_.os,h.by_.tape,h.by_.output,h.by_.size,fun k hk hn=>h.by_.block k hk (fun e=>hn (by rw[←e];simp))⟩
theorem Lies.apart {w:World} {v v':Value} {g:Nat} (h:Lies w v v') (hg:v.ownBlock≠some g) (hlt:g<w.heap.size):v'.ownBlock≠some g:=by
 rcases h with h|⟨k,h,hk⟩
 ·rw[h];exact hg
 ·rw[h];intro e;injection e with e;omega
theorem wpList_push_n {P:Program} {w:World} {ops:Array Oper} {rest:List Oper} {o:Oper} {a:Act} {Q:Exit→Act→World→Prop} (hgd:o.guard=none) (s x:Operand) {t:TypeId}
  (ho:o.op=.call { callee:=.builtin .append,args:=#[s,x],argTypes:=#[t,t] })
  (base:Nat) {e:TypeId} {size bytes:Nat} (hE:IsElem P t e size bytes)
  (v:Value) (n:Nat) (xs:List Value) (hs:a.eval s=v) (w0:World) (us:List Value) (e':TypeId) (hw:w=w0.alloc (.cells us.toArray e')) (hown:w0.ownsRow base e size v n xs)
  (hx:a.eval x=.slice (some ⟨w0.heap.size,0,none⟩) 1 1) (hl:us.length=size) (h1:∀u∈us,u.oneCell'=true)
  (hroom:Room n 1 bytes) (hbase:base≤w0.heap.size)
  (h:∀v' w',w'.ownsRow base e size v' (n+1) (xs++us)→Grows w0 w' v v'→wpList P ops Q rest (a.put o.dst v') w'):wpList P ops Q (o::rest) a w:=by
 subst hw
 have hr:Reads (w0.alloc (.cells us.toArray e')) (w0.heap.size+1) size (some ⟨w0.heap.size,0,none⟩) 1 us:=by
  have:=Reads.of_new w0 us e' us.length rfl
  refine⟨by rw[hl];omega,fun _=>⟨_,rfl,by simp,fun j u hu=>?_⟩⟩
  obtain⟨ad,h2,_,h3⟩:=this.2 (by
   rcases Nat.eq_zero_or_pos us.length with h0|h0
   ·have:us=[]:=List.eq_nil_of_length_eq_zero h0
    subst this
    simp at hu
   ·exact h0)
  injection h2 with h2
  subst h2
  exact h3 j u hu
 exact wpList_append_any hgd s x ho base hE v n xs hs (hown.alloc _) (w0.heap.size+1) _ 1 1 us hx hr h1 hroom (by simp;omega) fun v' w' h2 h3=>h v' w' h2 h3.alloc_first
theorem step_push {P:Program} {w:World} {ops:Array Oper} {o:Oper} {a:Act} {K:Act→World→Prop} {Q:Exit→Act→World→Prop} {E:Prop} (hgd:o.guard=none) (s x:Operand) {t:TypeId}
  (ho:o.op=.call { callee:=.builtin .append,args:=#[s,x],argTypes:=#[t,t] })
  (base:Nat) {e:TypeId} {size bytes:Nat} (hE:IsElem P t e size bytes)
  (v:Value) (n:Nat) (xs:List Value) (hs:a.eval s=v) (w0:World) (us:List Value) (e':TypeId) (hw:w=(w0.alloc (.cells us.toArray e')).drew) (hown:w0.ownsRow base e size v n xs)
  (hx:a.eval x=.slice (some ⟨w0.heap.size,0,none⟩) 1 1) (hl:us.length=size) (h1:∀u∈us,u.oneCell'=true)
  (hroom:Room n 1 bytes) (hbase:base≤w0.heap.size)
  (h:∀v' w',w'.ownsRow base e size v' (n+1) (xs++us)→Grows w0 w' v v'→K (a.put o.dst v') w') :
  if Region.wanted o (yielded ops a.tmps)=true then Oper.wp P o a w K Q else E:=by
 have hwt:Region.wanted o (yielded ops a.tmps)=true:=by simp[Region.wanted,hgd]
 rw[if_pos hwt]
 subst hw
 have hr:Reads (w0.alloc (.cells us.toArray e')).drew (w0.heap.size+1) size (some ⟨w0.heap.size,0,none⟩) 1 us:=by
  have:=Reads.of_new w0 us e' us.length rfl
  refine⟨by rw[hl];omega,fun _=>⟨_,rfl,by simp,fun j u hu=>?_⟩⟩
  obtain⟨ad,h2,_,h3⟩:=this.2 (by
   rcases Nat.eq_zero_or_pos us.length with h0|h0
   ·have:us=[]:=List.eq_nil_of_length_eq_zero h0
    subst this
    simp at hu
   ·exact h0)
  injection h2 with h2
  subst h2
  exact h3 j u hu
 refine wp_append_any s x ho base hE v n xs hs ((hown.alloc _).drew) (w0.heap.size+1) _ 1 1 us hx hr h1 hroom (by simp;omega) fun v' w' h2 h3=>h v' w' h2 ?_
 have h4:Grows (w0.alloc (.cells us.toArray e')) w' v v':=⟨⟨h3.by_.os,h3.by_.tape,h3.by_.output,h3.by_.size,h3.by_.block⟩,h3.lies⟩
 exact h4.alloc_first
end Go.Proofs.YtmekgpdfiimofaaGreatDoor
