import Derived.Test.YtomppgohoplemaaGreatRows
import Derived.Test.YtomppgohoplemaaGreatNAA
import Derived.Test.YtomppgohoplemaaGreatNAB
import Derived.Laws.Tables
import Derived.Maps.OwnSet
import Derived.DeepKeys4
import Derived.MapViews
import Derived.Maps.RangeWalk
import Derived.Deep.QuietTactic
import Derived.Deep.RegionHeld3
import Derived.Deep.RegionLaw
import Derived.Deep.AppendLies
import Derived.Deep.DeepCutAuto
import Derived.BigQuiet
import Derived.IntWalk
import Derived.Outline
import Derived.Lib.SliceRun
set_option linter.unusedVariables false
namespace Go.Proofs.YtomppgohoplemaaGreat
open Go.RowKit
theorem blk_lt {w:World} {g:Nat} {o:Obj} (h:w.heap[g]?=some o):g<w.heap.size:=(Array.getElem?_eq_some_iff.1 h).1
theorem cell_blk {w:World} {g:Nat} {cs:Array Value} {t:TypeId} (h:w.heap[g]?=some (.cells cs t (0,0))) (i:Nat):w.cell? ⟨g,i,none⟩=cs[i]?:=cell_of_row w g i cs t (0,0) h
theorem frozen_blk {w:World} {g:Nat} {cs:Array Value} {t:TypeId} (h:w.heap[g]?=some (.cells cs t (0,0))) (i:Nat):w.frozen? ⟨g,i,none⟩=false:=by simp[World.frozen?,h]
theorem setCell_blk {w:World} {g:Nat} {cs:Array Value} {t:TypeId} (h:w.heap[g]?=some (.cells cs t (0,0))) (i:Nat) (u:Value):(w.setCell ⟨g,i,none⟩ u).heap[g]?=some (.cells (cs.setIfInBounds i u) t (0,0)):=by
 simp[World.setCell,Array.getElem?_modify,h]
theorem Only.drewN (S:List Nat) (w:World) (d:Nat):Only S w (w.drewN d):=⟨rfl,rfl,rfl,Nat.le_refl _,fun _ _ _=>rfl⟩
theorem own_lt {w:World} {base:Nat} {e:TypeId} {size n:Nat} {v:Value} {xs:List Value} (h:w.ownsRow base e size v n xs):∀g,v.ownBlock=some g→g<w.heap.size:=fun g hg=>(h.lt g hg).2
theorem own_only3 {w w':World} {base:Nat} {e:TypeId} {size n:Nat} {v:Value} {xs:List Value} {S:List Nat} (h:w.ownsRow base e size v n xs) (ho:Only S w w') (hS:∀g,v.ownBlock=some g→g∉S):w'.ownsRow base e size v n xs:=by
 refine⟨h.1,?_⟩
 rcases h.2 with hn|⟨g,cap,cur,rfl,hbg,hh,rest⟩
 ·exact .inl hn
 ·exact .inr ⟨g,cap,cur,rfl,hbg,(ho.block g (Array.getElem?_eq_some_iff.1 hh).1 (hS g rfl)).trans hh,rest⟩
structure CellsOf (w:World) (B g:Nat) (cs:Array Value):Prop where
 out:∀W,grew w W→∀i u,cs[i]?=some u→W.cell? ⟨g,i,none⟩=some u
 size:∀W,grew w W→B≤W.heap.size
theorem CellsOf.of {w:World} {B g:Nat} {cs:Array Value} {t:TypeId} (h:w.heap[g]?=some (.cells cs t (0,0))) (hB:B≤w.heap.size):CellsOf w B g cs :=
 ⟨fun W hW i u hu=>by rw[cell_blk ((hW.block g (blk_lt h)).trans h) i];exact hu,fun W hW=>Nat.le_trans hB hW.size⟩
theorem setRow_blk {w:World} {g:Nat} {old cs:Array Value} {t:TypeId} (h:w.heap[g]?=some (.cells old t (0,0))):(w.setRow g cs).heap[g]?=some (.cells cs t (0,0)):=by
 simp[World.setRow,Array.getElem?_modify,h]
theorem setRow_only (w:World) (g:Nat) (cs:Array Value):Only [g] w (w.setRow g cs) :=
 ⟨rfl,rfl,rfl,by simp[World.setRow],fun i hi hS=>by
  have hne:¬g=i:=fun e=>hS (by simp[e])
  simp[World.setRow,Array.getElem?_modify,hne]⟩
end Go.Proofs.YtomppgohoplemaaGreat
namespace Go.Proofs.YtomppgohoplemaaGreat
open Go.RowKit Go.Maps
structure MapK (P:Program) (t k e:TypeId) {κ δ:Type} (ok:κ→Prop) (kv:κ→Value) (dv:δ→Value) (zero:δ) where
 ty:P.underlying t=some (.map k e)
 keyed:Keyed P k
 R:Value→Option (DataW Unit×List MemPlace)
 dd:δ→DataW Unit
 key:∀x,ok x→∃l,keyOf P k (kv x)=some l
 inj:∀x y,ok x→ok y→kv x=kv y→x=y
 read:∀d,R (dv d)=some (dd d,[])
 back:∀v d ps,R v=some (dd d,ps)→v=dv d
 zer:∀w:World,(zeroValue e).run P w=.ok (dv zero) w
section
variable {P:Program} {t k e:TypeId} {κ δ:Type} {ok:κ→Prop} {kv:κ→Value} {dv:δ→Value} {zero:δ}
def FMap (K:MapK P t k e ok kv dv zero) (w:World) (b n:Nat) (F:κ→Option δ):Prop :=
 ∃D:DataW Unit,IsMap D∧w.ownsMap P k K.R b n D∧∀x l,ok x→keyOf P k (kv x)=some l→(∀d,F x=some d→has D l=true∧∀z,D.atKey l z=K.dd d)∧(F x=none→has D l=false)
variable {K:MapK P t k e ok kv dv zero} {w w':World} {b n:Nat} {F:κ→Option δ}
theorem FMap.lt (h:FMap K w b n F):b<w.heap.size:=by obtain⟨D,_,h,_⟩:=h;exact h.lt
theorem FMap.made (K:MapK P t k e ok kv dv zero) (w:World):FMap K (w.alloc (.map #[] 0)) w.heap.size 0 (fun _=>none) :=
 ⟨.map [],isMap_empty,World.ownsMap_made _ _ _ _,fun x l _ _=>⟨fun d h=>(by cases h),fun _=>rfl⟩⟩
theorem FMap.only (h:FMap K w b n F) {S:List Nat} (ho:Only S w w') (hS:b∉S):FMap K w' b n F:=by
 obtain⟨D,h1,h2,h3⟩:=h
 refine⟨D,h1,?_,h3⟩
 have hlt:=h2.lt
 obtain⟨es,clock,hb,r⟩:=h2
 exact⟨es,clock,(ho.block b hlt hS).trans hb,r⟩
theorem FMap.below (h:FMap K w b n F) (hb:Below w.heap.size w w'):FMap K w' b n F:=h.only (S:=[]) (Only.of_below hb) (by simp)
theorem FMap.look (h:FMap K w b n F) {x:κ} (hx:ok x):(Instr.lookup t (.map (some b)) (kv x) true).run P w=.ok (.tuple #[dv ((F x).getD zero),.bool (F x).isSome]) w:=by
 obtain⟨D,h1,h2,h3⟩:=h
 obtain⟨l,hl⟩:=K.key x hx
 obtain⟨v,ps,hr,hv⟩:=h2.look_ok K.keyed K.ty (K.zer w) (K.read zero) hl
 obtain⟨a1,a2⟩:=h3 x l hx hl
 rw[hr]
 cases hF:F x with
 | none =>
  rw[a2 hF]
  rw[atKey_of_not_has (a2 hF)]at hv
  rw[K.back v zero ps hv]
  rfl
 | some d =>
  obtain⟨b1,b2⟩:=a1 d hF
  rw[b1]
  rw[b2]at hv
  rw[K.back v d ps hv]
  rfl
theorem FMap.put [DecidableEq κ] (h:FMap K w b n F) (hn:n<maxLen) {x:κ} (hx:ok x) (d:δ) :
  ∃w',(Instr.mapUpdate t (.map (some b)) (kv x) (dv d)).run P w=.ok () w'∧FMap K w' b (n+1) (fun y=>if y=x then some d else F y)∧w.grownBy w' (some b):=by
 obtain⟨D,h1,h2,h3⟩:=h
 obtain⟨l,hl⟩:=K.key x hx
 obtain⟨w',hr,hw,hg⟩:=h2.update K.keyed K.ty hn hl (K.read d)
 refine⟨w',hr,⟨_,h1.put l _,hw,fun y m hy hm=>?_⟩,hg⟩
 by_cases e:y=x
 ·subst e
  obtain rfl:l=m:=Option.some.inj (hl.symm.trans hm)
  refine⟨fun d' hd=>?_,fun hd=>?_⟩
  ·simp only[if_true]at hd
   injection hd with hd
   subst hd
   exact⟨has_put_same h1 (K.keyed.key hl) _,fun z=>atKey_put_same h1 (K.keyed.key hl) _ z⟩
  ·simp only[if_true]at hd
   cases hd
 ·have hne:m≠l:=fun e2=>e (K.inj y x hy hx (K.keyed.inj hm (by rw[hl,e2])))
  obtain⟨a1,a2⟩:=h3 y m hy hm
  refine⟨fun d' hd=>?_,fun hd=>?_⟩
  ·simp only[e,if_false]at hd
   obtain⟨b1,b2⟩:=a1 d' hd
   exact⟨by rw[has_put_other hne];exact b1,fun z=>by rw[atKey_put_other hne];exact b2 z⟩
  ·simp only[e,if_false]at hd
   rw[has_put_other hne]
   exact a2 hd
end
theorem only_grown {w w':World} {b:Nat} (h:w.grownBy w' (some b)):Only [b] w w' :=
 ⟨h.os,h.tape,h.output,h.size,fun i hi hn=>h.block i hi (fun e=>hn (by injection e with e;simp[e]))⟩
end Go.Proofs.YtomppgohoplemaaGreat
namespace Go.Proofs.YtomppgohoplemaaGreat
open Go.RowKit Go.Maps
theorem boxA (w:World) (cs:Array Value) (t:TypeId):∃W,w.alloc (.cells cs t)=W∧Below w.heap.size w W∧W.heap[w.heap.size]?=some (.cells cs t (0,0))∧W.heap.size=w.heap.size+1 :=
 ⟨_,rfl,(Below.refl _ _).alloc (Nat.le_refl _) _,heap_alloc_new w _,by simp⟩
def Ok64 (x:Int):Prop:=(Lit.int .i64 x).wf=true
theorem ok64 {x:Int} (h1:-9223372036854775808≤x) (h2:x≤9223372036854775807):Ok64 x:=by
 show (decide (IntKind.i64.min≤x)&&decide (x≤IntKind.i64.max))=true
 rw[Bool.and_eq_true,decide_eq_true_iff,decide_eq_true_iff]
 exact⟨h1,h2⟩
def intR:Value→Option (DataW Unit×List MemPlace)
 | .int .i64 a=>some (.lit (.int .i64 a),[])
 | _=>none
def nilR:Value→Option (DataW Unit×List MemPlace)
 | .slice none 0 0=>some (.agg [],[])
 | _=>none
def iK:MapK Tryz.prog 92 3 3 Ok64 (fun x:Int=>.int .i64 x) (fun x:Int=>.int .i64 x) 0 where
 ty:=Tryz.underlying92
 keyed:=int_keyed Tryz.underlying3
 R:=intR
 dd:=fun x=>.lit (.int .i64 x)
 key:=fun x hx=>⟨_,keyOf_int_mk Tryz.underlying3 hx⟩
 inj:=fun x y _ _ h=>by injection h
 read:=fun d=>rfl
 back:=fun v d ps h=>by
  unfold intR at h
  split at h
  ·injection h with h;injection h with h _;injection h with h;injection h with _ h;rw[h]
  ·cases h
 zer:=fun w=>by kernel_rfl
def gK:MapK Tryz.prog 104 3 70 Ok64 (fun x:Int=>.int .i64 x) (fun _:Unit=>.slice none 0 0) () where
 ty:=Tryz.underlying104
 keyed:=int_keyed Tryz.underlying3
 R:=nilR
 dd:=fun _=>.agg []
 key:=fun x hx=>⟨_,keyOf_int_mk Tryz.underlying3 hx⟩
 inj:=fun x y _ _ h=>by injection h
 read:=fun d=>rfl
 back:=fun v d ps h=>by
  unfold nilR at h
  split at h
  ·rfl
  ·cases h
 zer:=fun w=>by kernel_rfl
structure ArS where
 ag:Nat
 bb:Nat
 tb:Nat
 gb:Nat
 size:Nat
 hgt:Nat
 live:Nat
 nt:Nat
 bs:List UInt8
 F:Int→Option Int
structure Ar (w:World) (s:ArS):Prop where
 blk:w.heap[s.ag]?=some (.cells #[.slice (some ⟨s.bb,0,none⟩) s.size s.size,.int .i64 s.hgt,.int .i64 s.live,.map (some s.tb),.map (some s.gb)] 106 (0,0))
 mem:w.heap[s.bb]?=some (.cells (s.bs.map B).toArray 5 (0,0))
 len:s.bs.length=s.size
 sz:s.size≤65535
 hs:s.hgt≤65535
 tk:FMap iK w s.tb s.nt s.F
 gv:FMap gK w s.gb 0 (fun _=>none)
 ne1:s.bb≠s.ag
 ne2:s.tb≠s.ag∧s.tb≠s.bb
 ne3:s.gb≠s.ag∧s.gb≠s.bb∧s.gb≠s.tb
theorem Ar.below {w w':World} {s:ArS} (h:Ar w s) (hb:Below w.heap.size w w'):Ar w' s :=
 ⟨(hb.block _ (blk_lt h.blk)).trans h.blk,(hb.block _ (blk_lt h.mem)).trans h.mem,h.len,h.sz,h.hs,h.tk.below hb,h.gv.below hb,h.ne1,h.ne2,h.ne3⟩
theorem Ar.c0 {w:World} {s:ArS} (h:Ar w s):w.cell? ⟨s.ag,0,none⟩=some (.slice (some ⟨s.bb,0,none⟩) s.size s.size):=cell_blk h.blk 0
theorem Ar.byte {w:World} {s:ArS} (h:Ar w s) {i:Nat} {b:UInt8} (hi:s.bs[i]?=some b):w.cell? ⟨s.bb,i,none⟩=some (B b):=by
 rw[cell_blk h.mem i]
 simp[hi]
set_option maxRecDepth 100000 in
set_option maxHeartbeats 800000 in
theorem apart_ok (s:ArS) (i:Nat) (w:World) (h:Hid (Ar w s)) (hi:i+4≤s.size) :
  Calls Tryz.prog 52 #[.pointer (some ⟨s.ag,0,none⟩),.int .i64 (i:Int),.int .i64 4] w fun e w'=>e=.returned (.tuple #[.slice (some ⟨s.bb,i,none⟩) 4 (s.size-i),.int .i64 0])∧w=w':=by
 have c0:=h.out.c0
 have hz:=h.out.sz
 have h1:¬((s.size:Int)<(i:Int)):=by omega
 have h2:¬((s.size:Int)-(i:Int)<4):=by omega
 have h3:(i:Int)≤(i:Int)+4:=by omega
 have h4:(i:Int)+4≤(s.size:Int):=by omega
 go_enter Tryz.func52,Tryz.ntmps52
 go_wp2_with fail
 go_ret2
 exact⟨rfl,rfl⟩
set_option maxRecDepth 100000 in
set_option maxHeartbeats 800000 in
theorem apart_bad (s:ArS) (i:Int) (w:World) (h:Hid (Ar w s)) (hi:i<0∨(s.size:Int)<i+4) :
  Calls Tryz.prog 52 #[.pointer (some ⟨s.ag,0,none⟩),.int .i64 i,.int .i64 4] w fun e w'=>e=.returned (.tuple #[.slice none 0 0,.int .i64 2])∧w=w':=by
 have c0:=h.out.c0
 have hz:=h.out.sz
 by_cases h0:i<0
 ·clear hi
  go_enter Tryz.func52,Tryz.ntmps52
  go_wp2_with fail
  go_ret2
  exact⟨rfl,rfl⟩
 ·by_cases h1:(s.size:Int)<i
  ·clear hi
   go_enter Tryz.func52,Tryz.ntmps52
   go_wp2_with fail
   go_ret2
   exact⟨rfl,rfl⟩
  ·have h2:(s.size:Int)-i<4:=by omega
   clear hi
   go_enter Tryz.func52,Tryz.ntmps52
   go_wp2_with fail
   go_ret2
   exact⟨rfl,rfl⟩
set_option maxRecDepth 100000 in
set_option maxHeartbeats 800000 in
theorem aword_ok (s:ArS) (i:Nat) (w:World) (h:Hid (Ar w s)) (hi:i+4≤s.size) :
  Calls Tryz.prog 40 #[.pointer (some ⟨s.ag,0,none⟩),.int .i64 (i:Int),.int .i64 4] w fun e w'=>e=.returned (.tuple #[.slice (some ⟨s.bb,i,none⟩) 4 (s.size-i),.int .i64 0])∧w=w':=by
 have H:=hide (apart_ok s i w h hi)
 go_enter Tryz.func40,Tryz.ntmps40
 go_wp2_with fail
 refine H.out.mono ?_;rintro e w' ⟨rfl,rfl⟩
 go_wp2_with fail
 go_ret2
 exact⟨rfl,rfl⟩
set_option maxRecDepth 100000 in
set_option maxHeartbeats 800000 in
theorem aword_bad (s:ArS) (i:Int) (w:World) (h:Hid (Ar w s)) (hi:i<0∨(s.size:Int)<i+4) :
  Calls Tryz.prog 40 #[.pointer (some ⟨s.ag,0,none⟩),.int .i64 i,.int .i64 4] w fun e w'=>e=.returned (.tuple #[.slice none 0 0,.int .i64 2])∧w=w':=by
 have H:=hide (apart_bad s i w h hi)
 clear hi
 go_enter Tryz.func40,Tryz.ntmps40
 go_wp2_with fail
 refine H.out.mono ?_;rintro e w' ⟨rfl,rfl⟩
 go_wp2_with fail
 go_ret2
 exact⟨rfl,rfl⟩
set_option maxRecDepth 100000 in
set_option maxHeartbeats 800000 in
theorem aget_bad (s:ArS) (i:Int) (w:World) (h:Hid (Ar w s)) (hi:i<0∨(s.size:Int)<i+4) :
  Calls Tryz.prog 29 #[.pointer (some ⟨s.ag,0,none⟩),.int .i64 i,.int .i64 4] w fun e w'=>e=.returned (.tuple #[.int .u64 0,.int .i64 2])∧w=w':=by
 have H:=hide (aword_bad s i w h hi)
 clear hi
 go_enter Tryz.func29,Tryz.ntmps29
 go_wp2_with fail
 refine H.out.mono ?_;rintro e w' ⟨rfl,rfl⟩
 go_wp2_with fail
 go_ret2
 exact⟨rfl,rfl⟩
set_option maxRecDepth 100000 in
set_option maxHeartbeats 800000 in
theorem aget_ok (s:ArS) (i:Nat) (w:World) (h:Hid (Ar w s)) (hi:i+4≤s.size) :
  Calls Tryz.prog 29 #[.pointer (some ⟨s.ag,0,none⟩),.int .i64 (i:Int),.int .i64 4] w fun e w'=>e=.returned (.tuple #[.int .u64 (rwordN ((s.bs.drop i).take 4):Nat),.int .i64 0])∧w=w':=by
 have H:=hide (aword_ok s i w h hi)
 obtain⟨bs,hbs⟩:∃bs,(s.bs.drop i).take 4=bs:=⟨_,rfl⟩
 have hl:bs.length=4:=by rw[←hbs,List.length_take,List.length_drop,h.out.len];omega
 have HB:Hid (∀k c,bs[k]?=some c→w.cell? ⟨s.bb,i+k,none⟩=some (.int .u8 (c.toNat:Int))):=fun k c hk=>by
  have hk4:k<4:=by rw[←hl];exact(List.getElem?_eq_some_iff.1 hk).1
  rw[←hbs,List.getElem?_take,if_pos hk4,List.getElem?_drop]at hk
  exact h.out.byte hk
 rw[hbs]
 have HL:=hide hl
 clear hbs hl
 go_enter Tryz.func29,Tryz.ntmps29
 go_wp2_with fail
 refine H.out.mono ?_;rintro e w' ⟨rfl,rfl⟩
 go_wp2_with fail
 go_loop [10,11,12,25] (fun v _ _ i=>∃k acc:Nat,i=.int .i64 k∧k≤4∧v=.int .u64 acc∧Hid (rwordN (bs.take k)=acc)) (fun _ _ _ i=>4-(intOf i).toNat)
 case atStart=>exact⟨0,0,rfl,by omega,rfl,rfl⟩
 case round =>
  obtain⟨k,acc,rfl,hk,rfl,hacc⟩:=hrel
  by_cases hlt:k<4
  ·obtain⟨c,hc⟩:∃c,bs[k]?=some c:=⟨_,List.getElem?_eq_getElem (by rw[HL.out];exact hlt)⟩
   have hcell:=HB.out k c hc
   have hlt2:=rwordN_lt (bs.take k)
   rw[List.length_take,HL.out,Nat.min_eq_left (by omega),hacc.out]at hlt2
   have hor:=hide (ror_word acc c.toNat k (by omega) hlt2 c.toNat_lt)
   have hnx:=hide (rwordN_take hc)
   have hc0:(0:Int)≤(c.toNat:Int):=by omega
   have hc1:(c.toNat:Int)≤255:=by have:=c.toNat_lt;omega
   clear hlt2 hc
   go_wp2_with fail
   go_round
   case rel =>
    refine⟨k+1,acc+2^(8*k)*c.toNat,by go_num,by omega,int_congr hor.out,?_⟩
    show _=_
    rw[hnx.out,hacc.out]
   case measure=>simp[intOf]<;>omega
  ·have hkn:k=4:=by omega
   subst hkn
   clear hlt
   go_wp2_with fail
   go_ret2
   refine⟨tup2 (int_congr ?_) rfl,rfl⟩
   rw[←hacc.out,List.take_of_length_le (by rw[HL.out];exact Nat.le_refl _)]
def ArS.put (s:ArS) (i a:Nat):ArS:={ s with bs:=setB s.bs i (rbytesN a 4) }
theorem Ar.put {w w':World} {s:ArS} (h:Ar w s) (ho:Only [s.bb] w w') {i a:Nat} (hi:i+4≤s.size) (hm:w'.heap[s.bb]?=some (.cells ((setB s.bs i (rbytesN a 4)).map B).toArray 5 (0,0))):Ar w' (s.put i a):=by
 refine⟨(ho.block s.ag (blk_lt h.blk) (by simp;exact fun e=>h.ne1 e.symm)).trans h.blk,hm,?_,h.sz,h.hs,h.tk.only ho (by simp;exact h.ne2.2),h.gv.only ho (by simp;exact h.ne3.2.1),h.ne1,h.ne2,h.ne3⟩
 show (setB s.bs i (rbytesN a 4)).length=s.size
 rw[setB_len (by rw[rbytesN_len,h.len];exact hi),h.len]
set_option maxRecDepth 100000 in
set_option maxHeartbeats 800000 in
theorem asize_any (s:ArS) (w:World) (h:Hid (Ar w s)) :
  Calls Tryz.prog 28 #[.pointer (some ⟨s.ag,0,none⟩)] w fun e w'=>e=.returned (.int .i64 (s.size:Int))∧w=w':=by
 have c0:=h.out.c0
 go_enter Tryz.func28,Tryz.ntmps28
 go_wp2_with fail
 go_ret
 exact⟨rfl,rfl⟩
structure NewAr (s:ArS) (n base:Nat):Prop where
 size:s.size=n
 hgt:s.hgt=0
 live:s.live=0
 nt:s.nt=0
 bs:s.bs=List.replicate n 0
 F:s.F=fun _=>none
 ge:base≤s.ag∧base≤s.bb∧base≤s.tb∧base≤s.gb
set_option maxRecDepth 100000 in
set_option maxHeartbeats 800000 in
theorem anew_any (n:Nat) (w:World) (hn:n≤65535) :
  Calls Tryz.prog 9 #[.int .i64 (n:Int)] w fun e w'=>∃s:ArS,e=.returned (.tuple #[.pointer (some ⟨s.ag,0,none⟩),.int .i64 0])∧Hid (Ar w' s)∧Hid (NewAr s n w.heap.size)∧Hid (Below w.heap.size w w'):=by
 obtain⟨z,hz⟩:∃z,w.heap.size=z:=⟨_,rfl⟩
 have hmk:=rmake_u8 w n (by omega)
 rw[hz]at hmk
 obtain⟨W1,hW1,hb1,hx1,hs1⟩:=boxA w (Array.replicate n (.int .u8 0)) 5
 rw[hz]at hb1 hx1 hs1
 obtain⟨W2,hW2⟩:∃W2,W1.alloc (.map #[] 0)=W2:=⟨_,rfl⟩
 have hb2:Below (z+1) W1 W2:=by rw[←hW2];exact(Below.refl _ _).alloc (by omega) _
 have hm2:FMap iK W2 (z+1) 0 (fun _=>none):=by have:=FMap.made iK W1;rw[hW2,hs1]at this;exact this
 have hs2:W2.heap.size=z+2:=by rw[←hW2,World.size_alloc,hs1]
 obtain⟨W3,hW3⟩:∃W3,W2.alloc (.map #[] 0)=W3:=⟨_,rfl⟩
 have hb3:Below (z+2) W2 W3:=by rw[←hW3];exact(Below.refl _ _).alloc (by omega) _
 have hm3:FMap gK W3 (z+2) 0 (fun _=>none):=by have:=FMap.made gK W2;rw[hW3,hs2]at this;exact this
 have hs3:W3.heap.size=z+3:=by rw[←hW3,World.size_alloc,hs2]
 obtain⟨W4,hW4,hb4,hx4,hs4⟩:=boxA W3 #[.slice (some ⟨z,0,none⟩) n n,.int .i64 0,.int .i64 0,.map (some (z+1)),.map (some (z+1+1))] 106
 rw[hs3]at hb4 hx4 hs4
 have hB:Below z w W4:=((hb1.trans (hb2.mono (by omega))).trans (hb3.mono (by omega))).trans (hb4.mono (by omega))
 have hAr:Ar W4 ⟨z+3,z,z+1,z+2,n,0,0,0,List.replicate n 0,fun _=>none⟩:=by
  refine⟨hx4,?_,by simp,hn,by simp,?_,?_,by simp,by simp,by simp⟩
  ·have:=(hb4.block z (by omega)).trans ((hb3.block z (by omega)).trans ((hb2.block z (by omega)).trans hx1))
   rw[this]
   simp[B]
  ·exact(hm2.below (hb3.mono (by omega))).below (hb4.mono (by omega))
  ·exact hm3.below (hb4.mono (by omega))
 have HAR:=hide hAr;have HB:=hide hB;have HZ:=hide hz;have HW1:=hide hW1;have HW2:=hide hW2;have HW3:=hide hW3;have HW4:=hide hW4;have HS1:=hide hs1;have HS2:=hide hs2;have HS3:=hide hs3
 have hmm:=@run_makeMap Tryz.prog
 clear hAr hB hb1 hx1 hb2 hm2 hb3 hm3 hb4 hx4 hs4 hW1 hW2 hW3 hW4 hs1 hs2 hs3
 go_enter Tryz.func9,Tryz.ntmps9
 go_wp2_with fail
 go_ret2
 rw[HW1.out,HW2.out,HW3.out,HW4.out]
 exact⟨⟨z+3,z,z+1,z+2,n,0,0,0,List.replicate n 0,fun _=>none⟩,rfl,HAR,⟨rfl,rfl,rfl,rfl,rfl,rfl,by simp;omega⟩,by rw[HZ.out];exact HB⟩
theorem Ar.turn {w w':World} {s:ArS} (h:Ar w s) (ho:Only [s.ag] w w') (a b:Nat) (ha:a≤65535)
  (hx:w'.heap[s.ag]?=some (.cells #[.slice (some ⟨s.bb,0,none⟩) s.size s.size,.int .i64 a,.int .i64 b,.map (some s.tb),.map (some s.gb)] 106 (0,0))):Ar w' { s with hgt:=a,live:=b } :=
 ⟨hx,(ho.block s.bb (blk_lt h.mem) (by simp;exact h.ne1)).trans h.mem,h.len,h.sz,ha,h.tk.only ho (by simp;exact h.ne2.1),h.gv.only ho (by simp;exact h.ne3.1),h.ne1,h.ne2,h.ne3⟩
end Go.Proofs.YtomppgohoplemaaGreat
