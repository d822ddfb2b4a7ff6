import Derived.Test.YtmekgpdfiimofaaGreatDoorWAG
import Derived.Test.YtmekgpdfiimofaaGreatDoorWAB
import Derived.Test.YtmekgpdfiimofaaGreatDoorWAH
import Derived.Test.YtmekgpdfiimofaaGreatDoorWAI
import Derived.Test.YtmekgpdfiimofaaGreatDoorWAK
import Derived.Test.YtmekgpdfiimofaaGreatDoorWAF
import Derived.Laws.Strings2
import Derived.Laws.Strings3
import Derived.Lib.Strings
import Derived.Test.YtmekgpdfiimofaaGreatDoorRows
import Derived.Test.YtmekgpdfiimofaaGreatDoorWAA
import Derived.Outline
import Derived.Maps.RangeWalk
import Derived.Deep.DeepCutAuto
import Derived.IntWalk
import Derived.Deep.QuietTactic
set_option linter.unusedVariables false
namespace Go.Proofs.YtmekgpdfiimofaaGreatDoor
open Go.RowKit
structure Row {α:Type} (w:World) (size:Nat) (dec:α→List Value) (s:Sl α):Prop where
 r:Reads w w.heap.size size s.at_ s.l.length (s.l.flatMap dec)
 c:s.l.length≤s.cap
 m:s.cap≤maxLen
theorem Row.below {α:Type} {w w':World} {size:Nat} {dec:α→List Value} {s:Sl α} (h:Row w size dec s) (hb:Below w.heap.size w w'):Row w' size dec s :=
 ⟨(h.r.below hb).more hb.size,h.c,h.m⟩
theorem addr_pos (a:Addr) (j:Nat) (hj:0<j):a.add j=⟨a.block,a.off+j,none⟩:=by
 conv=>lhs;unfold Addr.add
 split
 ·omega
 ·rfl
theorem Row.at_ {α:Type} {w:World} {size:Nat} {dec:α→List Value} {s:Sl α} (h:Row w size dec s) (hd:∀a,(dec a).length=size) {i:Nat} {x:α} (hx:s.l[i]?=some x) :
  ∃ad:Addr,s.at_=some ad∧ad.block<w.heap.size∧(∀u,(dec x)[0]?=some u→0<size→w.cell? (ad.add (i*size))=some u) ∧
   ∀j,0<j→j<size→∀u,(dec x)[j]?=some u→w.cell? ⟨(ad.add (i*size)).block,(ad.add (i*size)).off+j,none⟩=some u:=by
 have hi:=lt_some hx
 obtain⟨ad,h1,hb,h2⟩:=h.r.2 (by omega)
 have hk:∀j,j<size→∀u,(dec x)[j]?=some u→w.cell? ((ad.add (i*size)).add j)=some u:=by
  intro j hj u hu
  rw[add_of_add]
  refine h2 _ _ ?_
  rw[flatMap_get (size:=size) hd s.l i j x hx hj]
  exact hu
 refine⟨ad,h1,hb,fun u hu h0=>?_,fun j h0 hj u hu=>?_⟩
 ·have:=hk 0 h0 u hu
  rwa [show (ad.add (i*size)).add 0=ad.add (i*size)from by simp[Addr.add]]at this
 ·rw[←addr_pos _ j h0]
  exact hk j hj u hu
def bD (b:UInt8):List Value:=[B b]
def uD (n:Nat):List Value:=[U n]
def iD (n:Int):List Value:=[.int .i64 n]
theorem map_bD (l:List UInt8):l.flatMap bD=l.map B:=by unfold bD;rw[←List.map_eq_flatMap]
theorem map_uD (l:List Nat):l.flatMap uD=l.map U:=by unfold uD;rw[←List.map_eq_flatMap]
theorem Row.bytes {w:World} {s:Sl UInt8} (h:Row w 1 bD s):Reads w w.heap.size 1 s.at_ s.l.length (s.l.map B):=by rw[←map_bD];exact h.r
theorem Row.nums {w:World} {s:Sl Nat} (h:Row w 1 uD s):Reads w w.heap.size 1 s.at_ s.l.length (s.l.map U):=by rw[←map_uD];exact h.r
structure XL where
 code:Int
 a:Nat
 b:Nat
 al:Int
 l:Sl Nat
def XL.x (y:XL):XI:=⟨y.code,y.a,y.b,y.al,y.l.l⟩
def XL.t (y:XL):Int×Int×Int×Int×Value:=(y.code,(y.a:Int),(y.b:Int),y.al,y.l.val)
def XL.cs (y:XL):List Value:=insD y.t
structure SgL where
 p:Sl UInt8
 r:Sl UInt8
def SgL.g (y:SgL):MSg:=⟨y.p.l,y.r.l⟩
def SgL.cs (y:SgL):List Value:=[y.p.val,y.r.val]
structure BdL where
 loc:Sl UInt8
 l:Sl XL
def BdL.g (y:BdL):MBd:=⟨y.loc.l,y.l.l.map XL.x⟩
def BdL.val (y:BdL):Value:=.agg #[y.loc.val,y.l.val]
structure FuL where
 sig:Int
 bd:BdL
def FuL.g (y:FuL):MFu:=⟨y.sig,y.bd.g⟩
def FuL.cs (y:FuL):List Value:=[.int .i64 y.sig,y.bd.loc.val,y.bd.l.val]
structure ElL where
 at_:Nat
 fs:Sl Int
def ElL.g (y:ElL):MEl:=⟨y.at_,y.fs.l⟩
def ElL.cs (y:ElL):List Value:=[.int .u64 (y.at_:Int),y.fs.val]
structure DaL where
 mem:Int
 at_:Nat
 bs:Sl UInt8
def DaL.g (y:DaL):MDa:=⟨y.mem,y.at_,y.bs.l⟩
def DaL.cs (y:DaL):List Value:=[.int .i64 y.mem,.int .u64 (y.at_:Int),y.bs.val]
def MIm.cs (y:MIm):List Value:=[.string ⟨y.m.toArray⟩,.string ⟨y.n.toArray⟩,.int .i64 y.sig]
def MLm.cs (y:MLm):List Value:=[.int .i64 y.mn,.int .i64 y.mx,.bool y.wide]
def MGl.cs (y:MGl):List Value:=[.int .u8 (y.t.toNat:Int),.bool y.mu,.int .u64 (y.v:Int)]
def MEx.cs (y:MEx):List Value:=[.string ⟨y.name.toArray⟩,.int .i64 y.kind,.int .i64 y.ix]
structure MoL where
 sigs:Sl SgL
 imps:Sl MIm
 funcs:Sl FuL
 table:Int
 mems:Sl MLm
 gls:Sl MGl
 exs:Sl MEx
 start:Int
 els:Sl ElL
 das:Sl DaL
def MoL.g (m:MoL):Mo:=⟨m.sigs.l.map SgL.g,m.imps.l,m.funcs.l.map FuL.g,m.table,m.mems.l,m.gls.l,m.exs.l,m.start,m.els.l.map ElL.g,m.das.l.map DaL.g⟩
def MoL.cs (m:MoL):List Value:=[m.sigs.val,m.imps.val,m.funcs.val,.int .i64 m.table,m.mems.val,m.gls.val,m.exs.val,.int .i64 m.start,m.els.val,m.das.val]
def I64 (n:Int):Prop:=-9223372036854775808≤n∧n≤9223372036854775807
def U64 (n:Nat):Prop:=n<18446744073709551616
structure BdIn (w:World) (y:BdL):Prop where
 loc:Row w 1 bD y.loc
 l:Row w 5 XL.cs y.l
 lab:∀x∈y.l.l,Row w 1 uD x.l
 num:∀x∈y.l.l,x.x.In
theorem BdIn.below {w w':World} {y:BdL} (h:BdIn w y) (hb:Below w.heap.size w w'):BdIn w' y :=
 ⟨h.loc.below hb,h.l.below hb,fun x hx=>(h.lab x hx).below hb,h.num⟩
structure MoIn (w:World) (m:MoL):Prop where
 sigs:Row w 2 SgL.cs m.sigs
 sig:∀x∈m.sigs.l,Row w 1 bD x.p∧Row w 1 bD x.r
 imps:Row w 3 MIm.cs m.imps
 imp:∀x∈m.imps.l,I64 x.sig∧x.m.length≤9223372036854775807∧x.n.length≤9223372036854775807
 funcs:Row w 3 FuL.cs m.funcs
 func:∀x∈m.funcs.l,I64 x.sig∧BdIn w x.bd
 table:I64 m.table
 mems:Row w 3 MLm.cs m.mems
 mem:∀x∈m.mems.l,I64 x.mn∧I64 x.mx
 gls:Row w 3 MGl.cs m.gls
 gl:∀x∈m.gls.l,U64 x.v
 exs:Row w 3 MEx.cs m.exs
 ex:∀x∈m.exs.l,I64 x.kind∧I64 x.ix∧x.name.length≤9223372036854775807
 start:I64 m.start
 els:Row w 2 ElL.cs m.els
 el:∀x∈m.els.l,U64 x.at_∧Row w 1 iD x.fs∧∀n∈x.fs.l,I64 n
 das:Row w 3 DaL.cs m.das
 da:∀x∈m.das.l,I64 x.mem∧U64 x.at_∧Row w 1 bD x.bs
theorem MoIn.below {w w':World} {m:MoL} (h:MoIn w m) (hb:Below w.heap.size w w'):MoIn w' m :=
 ⟨h.sigs.below hb,fun x hx=>⟨(h.sig x hx).1.below hb,(h.sig x hx).2.below hb⟩,h.imps.below hb,h.imp,h.funcs.below hb,fun x hx=>⟨(h.func x hx).1,(h.func x hx).2.below hb⟩,h.table,
  h.mems.below hb,h.mem,h.gls.below hb,h.gl,h.exs.below hb,h.ex,h.start,h.els.below hb,fun x hx=>⟨(h.el x hx).1,(h.el x hx).2.1.below hb,(h.el x hx).2.2⟩,
  h.das.below hb,fun x hx=>⟨(h.da x hx).1,(h.da x hx).2.1,(h.da x hx).2.2.below hb⟩⟩
structure MoAt (w:World) (g:Nat) (m:MoL):Prop where
 blk:w.heap[g]?=some (.cells m.cs.toArray 64 (0,0))
 in_:MoIn w m
theorem MoAt.below {w w':World} {g:Nat} {m:MoL} (h:MoAt w g m) (hb:Below w.heap.size w w'):MoAt w' g m :=
 ⟨(hb.block g (blk_lt h.blk)).trans h.blk,h.in_.below hb⟩
theorem MoAt.lt {w:World} {g:Nat} {m:MoL} (h:MoAt w g m):g<w.heap.size:=blk_lt h.blk
theorem MoAt.cell {w:World} {g:Nat} {m:MoL} (h:MoAt w g m) {k:Nat} {u:Value} (hu:m.cs[k]?=some u):w.cell? ⟨g,k,none⟩=some u:=by
 rw[cell_blk h.blk k,List.getElem?_toArray];exact hu
structure MoCells (w:World) (g:Nat) (m:MoL):Prop where
 c0:w.cell? ⟨g,0,none⟩=some (.slice m.sigs.at_ m.sigs.l.length m.sigs.cap)
 c1:w.cell? ⟨g,1,none⟩=some (.slice m.imps.at_ m.imps.l.length m.imps.cap)
 c2:w.cell? ⟨g,2,none⟩=some (.slice m.funcs.at_ m.funcs.l.length m.funcs.cap)
 c3:w.cell? ⟨g,3,none⟩=some (.int .i64 m.table)
 c4:w.cell? ⟨g,4,none⟩=some (.slice m.mems.at_ m.mems.l.length m.mems.cap)
 c5:w.cell? ⟨g,5,none⟩=some (.slice m.gls.at_ m.gls.l.length m.gls.cap)
 c6:w.cell? ⟨g,6,none⟩=some (.slice m.exs.at_ m.exs.l.length m.exs.cap)
 c7:w.cell? ⟨g,7,none⟩=some (.int .i64 m.start)
 c8:w.cell? ⟨g,8,none⟩=some (.slice m.els.at_ m.els.l.length m.els.cap)
 c9:w.cell? ⟨g,9,none⟩=some (.slice m.das.at_ m.das.l.length m.das.cap)
theorem MoAt.cells {w:World} {g:Nat} {m:MoL} (h:MoAt w g m):MoCells w g m :=
 ⟨h.cell rfl,h.cell rfl,h.cell rfl,h.cell rfl,h.cell rfl,h.cell rfl,h.cell rfl,h.cell rfl,h.cell rfl,h.cell rfl⟩
theorem below_dr {B:Nat} {a w:World} (h:Below B a w) (n:Nat):Below B a (w.drewN n):=⟨h.os,h.tape,h.output,h.size,h.block⟩
theorem set_two {w:World} {g:Nat} {a b:Value} {t:TypeId} (h:w.heap[g]?=some (.cells #[a,b] t (0,0))) (u v:Value) {B:Nat} (hB:B≤g) :
  ((w.setCell ⟨g,0,none⟩ u).setCell ⟨g,1,none⟩ v).cell? ⟨g,0,none⟩=some u∧((w.setCell ⟨g,0,none⟩ u).setCell ⟨g,1,none⟩ v).cell? ⟨g,1,none⟩=some v∧Below B w ((w.setCell ⟨g,0,none⟩ u).setCell ⟨g,1,none⟩ v):=by
 have h2:=setCell_blk (setCell_blk h 0 u) 1 v
 exact⟨cell_blk h2 0,cell_blk h2 1,((Below.refl _ _).setCell (p:=⟨g,0,none⟩) hB _).setCell (p:=⟨g,1,none⟩) hB _⟩
theorem box_new (w:World) (cs:Array Value) (t:TypeId):∃W,w.alloc (.cells cs t)=W∧Below w.heap.size w W∧W.heap[w.heap.size]?=some (.cells cs t (0,0))∧W.heap.size=w.heap.size+1 :=
 ⟨_,rfl,(Below.refl _ _).alloc (Nat.le_refl _) _,heap_alloc_new w _,by simp⟩
theorem sl_len {α:Type} {s:Sl α} {w:World} {size:Nat} {dec:α→List Value} (h:Row w size dec s):s.l.length≤9223372036854775807:=by
 have:=h.c;have:=h.m;unfold maxLen at *;omega
theorem str_at (l:List UInt8) (k:Nat) (kd:IntKind) {c:UInt8} (hk:l[k]?=some c) (W:World):(Instr.index 9 (.string ⟨l.toArray⟩) (.int kd k)).run Tryz.prog W=.ok (.int .u8 (c.toNat:Int)) W:=by
 obtain⟨h1,h2⟩:=List.getElem?_eq_some_iff.1 hk
 have hs:(⟨l.toArray⟩:ByteArray).size=l.length:=rfl
 rw[run_index_string W 9 ⟨l.toArray⟩ kd _ Tryz.underlying9,dif_pos ⟨by omega,by rw[hs];omega⟩]
 have e:((k:Int)).toNat=k:=by omega
 simp only[e]
 subst h2
 rfl
def bitsV (t:UInt8):Int:=if t.toNat=127 then 32 else if t.toNat=126 then 64 else 0
set_option maxHeartbeats 400000 in
theorem tbits_any (t:UInt8) (w:World):Calls Tryz.prog 51 #[.int .u8 t.toNat] w fun e w'=>e=.returned (.int .i64 (bitsV t))∧w=w':=by
 unfold bitsV
 have h256:=t.toNat_lt
 generalize t.toNat=n at *
 by_cases h1:n=127
 ·subst h1
  go_enter Tryz.func51,Tryz.ntmps51
  go_wp2_with fail
  go_ret
  exact⟨rfl,rfl⟩
 ·by_cases h2:n=126
  ·subst h2
   go_enter Tryz.func51,Tryz.ntmps51
   go_wp2_with fail
   go_ret
   exact⟨rfl,rfl⟩
  ·rw[if_neg h1,if_neg h2]
   have e1:((n:Int)==127)=false:=by simp;omega
   have e2:((n:Int)==126)=false:=by simp;omega
   clear h1 h2
   go_enter Tryz.func51,Tryz.ntmps51
   go_wp2_with fail
   go_ret
   exact⟨rfl,rfl⟩
def badT (t:UInt8):Bool:=decide (t.toNat≠127)&&decide (t.toNat≠126)
theorem badT_bits (t:UInt8):(bitsV t==0)=badT t:=by
 unfold bitsV badT
 by_cases h1:t.toNat=127
 ·simp[h1]
 ·by_cases h2:t.toNat=126
  ·simp[h2]
  ·simp[h1,h2]
set_option maxHeartbeats 400000 in
theorem few1_any (t:UInt8) (w:World):Calls Tryz.prog 78 #[.int .u8 t.toNat] w fun e w'=>e=.returned (.bool (badT t))∧w=w':=by
 have hb:=badT_bits t
 have H:=hide (tbits_any t w)
 generalize bitsV t=x at H hb
 generalize badT t=q at *
 go_enter Tryz.func78,Tryz.ntmps78
 go_wp2_with fail
 refine H.out.mono ?_;rintro e w' ⟨rfl,rfl⟩
 go_wp2_with fail
 go_ret
 exact⟨rfl,rfl⟩
set_option maxHeartbeats 800000 in
theorem indexFunc_any (A:Option Addr) (cap:Nat) (ts:List UInt8) (w:World) (hr:Hid (Reads w w.heap.size 1 A ts.length (ts.map B))) (hl:ts.length≤1000) :
  Calls Tryz.prog 93 #[.slice A ts.length cap,.func (.func 78) #[] #[]] w fun e w'=>∃i:Int,e=.returned (.int .i64 i)∧-1≤i∧decide (0≤i)=ts.any badT∧w=w':=by
 go_enter Tryz.func93,Tryz.ntmps93
 go_wp2_with fail
 go_loop [5,8] (fun _ i=>∃k:Nat,i=.int .i64 k∧k≤ts.length∧Hid ((ts.take k).any badT=false)) (fun _ i=>ts.length-(intOf i).toNat)
 case atStart=>exact⟨0,rfl,by omega,by show _=_;simp⟩
 case round =>
  obtain⟨k,rfl,hk,hin⟩:=hrel
  by_cases hlt:k<ts.length
  ·obtain⟨ad,c,rfl,hc,hcell,hc0,hc1⟩:=hr.out.byte (k:=k) hlt
   have hst:ts.take (k+1)=ts.take k++[c]:=by rw[List.take_add_one,hc.out];rfl
   have HST:=hide hst
   have HF:=hide (few1_any c w)
   clear hst
   obtain⟨q,hq⟩:∃q,badT c=q:=⟨_,rfl⟩
   rw[hq]at HF
   have HQ:=hide hq
   clear hq
   cases q with
   | true =>
    go_wp2_with fail
    refine HF.out.mono ?_;rintro e w' ⟨rfl,rfl⟩
    go_wp2_with fail
    go_ret
    refine⟨k,rfl,by omega,?_,rfl⟩
    rw[decide_eq_true (by omega)]
    symm
    rw[List.any_eq_true]
    exact⟨c,List.mem_of_getElem? hc.out,HQ.out⟩
   | false =>
    go_wp2_with fail
    refine HF.out.mono ?_;rintro e w' ⟨rfl,rfl⟩
    go_wp2_with fail
    go_round
    case rel =>
     refine⟨k+1,by go_num,by omega,?_⟩
     show _=_
     rw[HST.out,List.any_append,hin.out]
     simp[HQ.out]
    case measure=>simp[intOf]<;>omega
  ·have hkk:k=ts.length:=by omega
   subst hkk
   have hfin:=hin.out
   rw[List.take_length]at hfin
   have HFI:=hide hfin
   clear hlt hfin hin
   go_wp2_with fail
   go_ret
   exact⟨-1,rfl,by omega,by rw[HFI.out];rfl,rfl⟩
set_option maxHeartbeats 400000 in
theorem containsFunc_any (A:Option Addr) (cap:Nat) (ts:List UInt8) (w:World) (hr:Hid (Reads w w.heap.size 1 A ts.length (ts.map B))) (hl:ts.length≤1000) :
  Calls Tryz.prog 77 #[.slice A ts.length cap,.func (.func 78) #[] #[]] w fun e w'=>e=.returned (.bool (ts.any badT))∧w=w':=by
 have H:=hide (indexFunc_any A cap ts w hr hl)
 go_enter Tryz.func77,Tryz.ntmps77
 go_wp2_with fail
 refine H.out.mono ?_;rintro e w' ⟨i,rfl,hi,hd,rfl⟩
 have HD:=hide hd
 clear hd
 go_wp2_with fail
 go_ret
 exact⟨by rw[←HD.out];rfl,rfl⟩
def fewT (ts:List UInt8):Bool:=decide (ts.length≤20)&&!ts.any badT
set_option maxHeartbeats 800000 in
theorem few_any (A:Option Addr) (cap:Nat) (ts:List UInt8) (w:World) (hr:Hid (Reads w w.heap.size 1 A ts.length (ts.map B))) (hl:ts.length≤1000) :
  Calls Tryz.prog 67 #[.slice A ts.length cap] w fun e w'=>e=.returned (.bool (fewT ts))∧w=w':=by
 have H:=hide (containsFunc_any A cap ts w hr hl)
 unfold fewT
 by_cases h:ts.length≤20
 ·rw[decide_eq_true h]
  generalize ts.any badT=q at H ⊢
  go_enter Tryz.func67,Tryz.ntmps67
  go_wp2_with fail
  refine H.out.mono ?_;rintro e w' ⟨rfl,rfl⟩
  go_wp2_with fail
  go_ret
  exact⟨by simp,rfl⟩
 ·rw[decide_eq_false h]
  have h2:20<ts.length:=by omega
  clear h
  go_enter Tryz.func67,Tryz.ntmps67
  go_wp2_with fail
  go_ret
  exact⟨by simp,rfl⟩
structure SigIs (w:World) (v:Value) (ps rs:List UInt8):Prop where
 ex:∃A1 c1 A2 c2,v=.agg #[.slice A1 ps.length c1,.slice A2 rs.length c2]∧Hid (Reads w w.heap.size 1 A1 ps.length (ps.map B))∧Hid (Reads w w.heap.size 1 A2 rs.length (rs.map B))
theorem SigIs.below {w w':World} {v:Value} {ps rs:List UInt8} (h:SigIs w v ps rs) (hb:Below w.heap.size w w'):SigIs w' v ps rs:=by
 obtain⟨A1,c1,A2,c2,e,h1,h2⟩:=h.ex
 exact⟨A1,c1,A2,c2,e,(h1.out.below hb).more hb.size,(h2.out.below hb).more hb.size⟩
set_option maxHeartbeats 800000 in
theorem right_any (v:Value) (ps rs:List UInt8) (w:World) (hv:Hid (SigIs w v ps rs)) (h1:ps.length≤1000) (h2:rs.length≤1000) :
  Calls Tryz.prog 41 #[v] w fun e w'=>e=.returned (.bool (fewT ps&&fewT rs))∧Below w.heap.size w w':=by
 obtain⟨A1,c1,A2,c2,rfl,r1,r2⟩:=hv.out.ex
 have HF1:=hide (fun W (h:Below w.heap.size w W)=>few_any A1 c1 ps W ((r1.out.below h).more h.size) h1)
 have HF2:=hide (fun W (h:Below w.heap.size w W)=>few_any A2 c2 rs W ((r2.out.below h).more h.size) h2)
 generalize ps.length=n1 at *
 generalize rs.length=n2 at *
 generalize fewT ps=q1 at *
 generalize fewT rs=q2 at *
 go_enter Tryz.func41,Tryz.ntmps41
 go_wp2_with fail
 refine(HF1.out _ ((Below.refl _ _).alloc (Nat.le_refl _) _)).mono ?_;rintro e w' ⟨rfl,rfl⟩
 cases q1 with
 | true =>
  go_wp2_with fail
  refine(HF2.out _ ((Below.refl _ _).alloc (Nat.le_refl _) _)).mono ?_;rintro e w' ⟨rfl,rfl⟩
  go_wp2_with fail
  go_ret
  exact⟨by simp,(Below.refl _ _).alloc (Nat.le_refl _) _⟩
 | false =>
  go_wp2_with fail
  go_ret
  exact⟨by simp,(Below.refl _ _).alloc (Nat.le_refl _) _⟩
def inI (n k:Int):Bool:=decide (0≤n)&&decide (n<k)
theorem inI_nat (n:Int) (k:Nat):inI n (k:Int)=inB n k:=rfl
theorem mhas_any (n k:Int) (w:World):Calls Tryz.prog 44 #[.int .i64 n,.int .i64 k] w fun e w'=>e=.returned (.bool (inI n k))∧w=w':=by
 unfold inI
 by_cases h1:0≤n
 ·by_cases h2:n<k
  ·rw[decide_eq_true h1,decide_eq_true h2]
   go_enter Tryz.func44,Tryz.ntmps44
   go_wp2_with fail
   go_ret
   exact⟨rfl,rfl⟩
  ·rw[decide_eq_true h1,decide_eq_false h2]
   go_enter Tryz.func44,Tryz.ntmps44
   go_wp2_with fail
   go_ret
   exact⟨rfl,rfl⟩
 ·rw[decide_eq_false h1]
  have h1':n<0:=by omega
  go_enter Tryz.func44,Tryz.ntmps44
  go_wp2_with fail
  go_ret
  exact⟨rfl,rfl⟩
theorem mwhen_any (b:Bool) (n:Int) (w:World):Calls Tryz.prog 40 #[.bool b,.int .i64 n] w fun e w'=>e=.returned (.int .i64 (if b then n else 0))∧w=w':=by
 cases b <;>
 ·go_enter Tryz.func40,Tryz.ntmps40
  go_wp2_with fail
  go_ret
  exact⟨rfl,rfl⟩
theorem nmB_eq (s:List UInt8):nmB s=(s.all nmC&&(decide (0<s.length)&&decide (s.length≤30))):=rfl
set_option maxHeartbeats 800000 in
theorem named13_any (s:List UInt8) (w:World) (hl:s.length≤9223372036854775807) :
  Calls Tryz.prog 43 #[.string ⟨s.toArray⟩] w fun e w'=>e=.returned (.bool (nmB s))∧w=w':=by
 have hsz:(⟨s.toArray⟩:ByteArray).size=s.length:=rfl
 go_enter Tryz.func43,Tryz.ntmps43
 go_wp2_with fail
 go_loop [2,3,6] (fun r _ i=>∃k:Nat,r=.bool false∧i=.int .i64 k∧k≤s.length∧Hid ((s.take k).all nmC=true)) (fun _ _ i=>s.length-(intOf i).toNat)
 case atStart=>exact⟨0,rfl,rfl,by omega,by show _=_;simp⟩
 case round =>
  obtain⟨k,rfl,rfl,hk,hin⟩:=hrel
  by_cases hlt:k<s.length
  ·obtain⟨c,hc⟩:∃c,s[k]?=some c:=⟨_,List.getElem?_eq_getElem hlt⟩
   have hat:=str_at s k .i64 hc w
   have hst:s.take (k+1)=s.take k++[c]:=by rw[List.take_add_one,hc];rfl
   have HST:=hide hst;have HC:=hide hc
   have hc255:=c.toNat_lt
   clear hst hc
   by_cases h1:c.toNat<33
   ·have hno:Hid (nmB s=false):=by
     show _=_
     have:s.all nmC=false:=by
      rw[List.all_eq_false]
      exact⟨c,List.mem_of_getElem? HC.out,by unfold nmC;simp;omega⟩
     rw[nmB_eq,this];rfl
    have g1:decide ((c.toNat:Int)<33)=true:=by simp;omega
    clear h1
    go_wp2_with fail
    go_ret
    exact⟨by rw[hno.out];rfl,rfl⟩
   ·have g1:decide ((c.toNat:Int)<33)=false:=by simp;omega
    by_cases h2:126<c.toNat
    ·have hno:Hid (nmB s=false):=by
      show _=_
      have:s.all nmC=false:=by
       rw[List.all_eq_false]
       exact⟨c,List.mem_of_getElem? HC.out,by unfold nmC;simp;omega⟩
      rw[nmB_eq,this];rfl
     have g2:decide ((126:Int)<(c.toNat:Int))=true:=by simp;omega
     clear h1 h2
     go_wp2_with fail
     go_ret
     exact⟨by rw[hno.out];rfl,rfl⟩
    ·have g2:decide ((126:Int)<(c.toNat:Int))=false:=by simp;omega
     have hnx:Hid ((s.take (k+1)).all nmC=true):=by
      show _=_
      rw[HST.out,List.all_append,hin.out]
      simp[nmC]
      omega
     clear h1 h2
     go_wp2_with fail
     go_round
     case rel=>exact⟨k+1,rfl,by go_num,by omega,hnx⟩
     case measure=>simp[intOf]<;>omega
  ·have hk2:k=s.length:=by omega
   have hall:=hin.out
   rw[List.take_of_length_le (by omega)]at hall
   clear hlt
   cases s with
   | nil =>
    go_wp2_with fail
    go_ret
    exact⟨rfl,rfl⟩
   | cons b r =>
    have hN:Hid (nmB (b::r)=decide ((b::r).length≤30)):=by show _=_;rw[nmB_eq,hall];simp
    have f1:(⟨(b::r).toArray⟩:ByteArray).toList.isEmpty=false:=by rw[ByteArray.toList_eq];rfl
    clear hall
    go_wp2_with fail
    go_ret
    have hdd:decide ((r.length:Int)+1≤30)=decide ((b::r).length≤30):=decide_eq_decide.2 (by simp only[List.length_cons];omega)
    exact⟨by rw[hN.out,←hdd];rfl,rfl⟩
theorem mcount_any (g:Nat) (m:MoL) (w:World) (h:Hid (MoAt w g m)) (hm:m.imps.l.length≤1000000) (hf:m.funcs.l.length≤1000000):Calls Tryz.prog 45 #[.pointer (some ⟨g,0,none⟩)] w fun e w'=>e=.returned (.int .i64 ((m.imps.l.length+m.funcs.l.length:Nat):Int))∧Hid (Below w.heap.size w w'):=by
 obtain⟨_,c1,c2,_,_,_,_,_,_,_⟩:=h.out.cells
 go_enter Tryz.func45,Tryz.ntmps45
 go_wp2_with fail
 go_quiet (fail)
 go_wp2_with fail
 go_ret
 exact⟨rfl,below_dr (Below.refl _ _) _⟩
set_option maxRecDepth 100000 in
set_option maxHeartbeats 1600000 in
theorem mfirst_any (n:Nat) (F:FuncId) (cp:Array Value) (f:Nat→Nat) (w:World) (hn:n≤1000000) (hf:∀i,f i≤1000) (hcf:∀(x:Value) (W:World),Sem.run Tryz.prog (callFunc F (#[x]++cp)) W=.ok (.enter F (#[x]++cp)) W)
  (hF:Hid (∀i:Nat,i<n→∀W,Below w.heap.size w W→Calls Tryz.prog F (#[.int .i64 (i:Int)]++cp) W fun e w'=>e=.returned (.int .i64 (f i:Int))∧Hid (Below W.heap.size W w'))) :
  Calls Tryz.prog 46 #[.int .i64 (n:Int),.func (.func F) #[] cp] w fun e w'=>e=.returned (.int .i64 (firstI f n:Int))∧Hid (Below w.heap.size w w'):=by
 go_enter Tryz.func46,Tryz.ntmps46
 go_wp2_with fail
 go_loopw [4,5,6,8] (fun r v u i w1=>∃k:Nat,r=.int .i64 0∧i=.int .i64 k∧k≤n∧Hid (Below w.heap.size w w1)∧Hid (∀j,j<k→f j=0)) (fun _ _ _ i _=>n-(intOf i).toNat)
 case atStart=>exact⟨0,rfl,rfl,by omega,Below.refl _ _,by intro j hj;omega⟩
 case round =>
  obtain⟨k,rfl,rfl,hk,hbw,hz⟩:=hrel
  by_cases hlt:k<n
  ·have HC:=hide (hF.out k hlt wr hbw.out)
   by_cases h0:f k=0
   ·rw[h0]at HC
    have hz2:Hid (∀j,j<k+1→f j=0):=by
     intro j hj
     rcases Nat.lt_or_ge j k with h|h
     ·exact hz.out j h
     ·obtain rfl:j=k:=by omega
      exact h0
    clear h0 hz
    go_wp2_with fail
    refine HC.out.mono ?_;rintro e w2 ⟨rfl,h2⟩
    have HB2:Hid (Below w.heap.size w w2):=hbw.out.trans (h2.out.mono hbw.out.size)
    clear h2 HC
    go_wp2_with fail
    go_roundw
    case rel=>exact⟨k+1,rfl,by go_num,by omega,HB2,hz2⟩
    case measure=>simp[intOf]<;>omega
   ·have hfk:Hid (firstI f n=f k):=firstI_at hlt hz.out h0
    have hb:=hf k
    obtain⟨q,hq⟩:∃q,f k=q:=⟨_,rfl⟩
    rw[hq]at HC hfk hb h0
    have h1:((q:Nat):Int)≠0:=by omega
    have h2:((q:Int) != 0)=true:=by simpa using h1
    clear h0 h1 hq
    go_wp2_with fail
    refine HC.out.mono ?_;rintro e w2 ⟨rfl,h2⟩
    go_wp2_with fail
    go_ret
    exact⟨by rw[hfk.out];rfl,hbw.out.trans (h2.out.mono hbw.out.size)⟩
  ·have hfk:Hid (firstI f n=0):=firstI_zero (fun i hi=>hz.out i (by omega))
   clear hz
   go_wp2_with fail
   go_ret
   exact⟨by rw[hfk.out];rfl,hbw⟩
set_option maxRecDepth 100000 in
theorem mmany_any (n most:Nat) (F:FuncId) (cp:Array Value) (f:Nat→Nat) (w:World) (hn:n≤1000000) (hm:most≤1000000) (hf:∀i,f i≤1000) (hcf:∀(x:Value) (W:World),Sem.run Tryz.prog (callFunc F (#[x]++cp)) W=.ok (.enter F (#[x]++cp)) W)
  (hF:Hid (n≤most→∀i:Nat,i<n→∀W,Below w.heap.size w W→Calls Tryz.prog F (#[.int .i64 (i:Int)]++cp) W fun e w'=>e=.returned (.int .i64 (f i:Int))∧Hid (Below W.heap.size W w'))) :
  Calls Tryz.prog 38 #[.int .i64 (n:Int),.int .i64 (most:Int),.func (.func F) #[] cp] w fun e w'=>e=.returned (.int .i64 (manyI n most f:Int))∧Hid (Below w.heap.size w w'):=by
 unfold manyI
 by_cases h:most<n
 ·rw[if_pos h]
  go_enter Tryz.func38,Tryz.ntmps38
  go_wp2_with fail
  go_ret
  exact⟨rfl,Below.refl _ _⟩
 ·rw[if_neg h]
  have HC:=hide (mfirst_any n F cp f w hn hf hcf (hide (hF.out (by omega))))
  go_enter Tryz.func38,Tryz.ntmps38
  go_wp2_with fail
  refine HC.out.mono ?_;rintro e w2 ⟨rfl,h2⟩
  go_wp2_with fail
  go_ret
  exact⟨rfl,h2⟩
def mnumL (m:MoL) (f:Int):Option Int:=if 0≤f∧f<((m.imps.l.length+m.funcs.l.length:Nat):Int)then some (sigN m.g f.toNat)else none
def mnumV:Option Int→Value
 | some n=>.tuple #[.int .i64 n,.bool true]
 | none=>.tuple #[.int .i64 0,.bool false]
set_option maxRecDepth 100000 in
set_option maxHeartbeats 1600000 in
theorem mnumber_any (g:Nat) (m:MoL) (f:Int) (w:World) (h:Hid (MoAt w g m)) (hm:m.imps.l.length≤1000000) (hf:m.funcs.l.length≤1000000) (hf1:-9223372036854775808≤f) (hf2:f≤9223372036854775807) :
  Calls Tryz.prog 69 #[.pointer (some ⟨g,0,none⟩),.int .i64 f] w fun e w'=>e=.returned (mnumV (mnumL m f))∧Hid (Below w.heap.size w w'):=by
 obtain⟨_,c1,c2,_,_,_,_,_,_,_⟩:=h.out.cells
 have HC:=hide (mcount_any g m w h hm hf)
 by_cases h0:f<0
 ·have hn:Hid (mnumL m f=none):=by show _=_;unfold mnumL;rw[if_neg (by omega)]
  go_enter Tryz.func69,Tryz.ntmps69
  go_wp2_with fail
  go_ret2
  exact⟨by rw[hn.out];rfl,Below.refl _ _⟩
 obtain⟨j,rfl⟩:∃j:Nat,f=(j:Int):=⟨f.toNat,by omega⟩
 by_cases h1:j<m.imps.l.length
 ·obtain⟨x,hx⟩:∃x,m.imps.l[j]?=some x:=⟨_,List.getElem?_eq_getElem h1⟩
  have hn:Hid (mnumL m (j:Int)=some x.sig):=by
   show _=_
   unfold mnumL
   rw[if_pos (by omega),Int.toNat_natCast]
   unfold sigN
   show some (if j<m.imps.l.length then (m.imps.l.getD j noIm).sig else _)=_
   rw[if_pos h1,getD_some hx]
  have hlt:(j:Int)<((m.imps.l.length+m.funcs.l.length:Nat):Int):=by omega
  have HX:=hide hx
  clear hx
  generalize m.imps.l.length+m.funcs.l.length=q at *
  go_enter Tryz.func69,Tryz.ntmps69
  go_wp2_with fail
  refine HC.out.mono ?_;rintro e w2 ⟨rfl,h2⟩
  obtain⟨ad,ha,_,_,hc⟩:=(h.out.below h2.out).in_.imps.at_ (fun _=>rfl) HX.out
  obtain⟨_,d1,_,_,_,_,_,_,_,_⟩:=(h.out.below h2.out).cells
  have k2:=hc 2 (by omega) (by omega) _ rfl
  rw[ha]at d1
  clear hc
  go_wp2_with fail
  go_ret2
  exact⟨by rw[hn.out];rfl,h2⟩
 by_cases h2:j<m.imps.l.length+m.funcs.l.length
 ·obtain⟨k,hk⟩:∃k,j=m.imps.l.length+k:=⟨j-m.imps.l.length,by omega⟩
  have hkl:k<m.funcs.l.length:=by omega
  obtain⟨x,hx⟩:∃x,m.funcs.l[k]?=some x:=⟨_,List.getElem?_eq_getElem hkl⟩
  have hn:Hid (mnumL m (j:Int)=some x.sig):=by
   show _=_
   unfold mnumL
   rw[if_pos (by omega),Int.toNat_natCast]
   unfold sigN
   show some (if j<m.imps.l.length then _ else ((m.funcs.l.map FuL.g).getD (j-m.imps.l.length) noFu).sig)=_
   rw[if_neg h1,show j-m.imps.l.length=k from by omega,getD_some (x:=x.g) (by rw[List.getElem?_map,hx];rfl)]
   rfl
  have e1:(j:Int)-(m.imps.l.length:Int)=(k:Int):=by omega
  have hlt:(j:Int)<((m.imps.l.length+m.funcs.l.length:Nat):Int):=by omega
  have h1':(m.imps.l.length:Int)≤(j:Int):=by omega
  have HX:=hide hx
  generalize m.imps.l.length+m.funcs.l.length=q at *
  clear hk hx h1 h2
  go_enter Tryz.func69,Tryz.ntmps69
  go_wp2_with fail
  refine HC.out.mono ?_;rintro e w2 ⟨rfl,h2⟩
  obtain⟨ad,ha,_,k0,_⟩:=(h.out.below h2.out).in_.funcs.at_ (fun _=>rfl) HX.out
  obtain⟨_,d1,d2,_,_,_,_,_,_,_⟩:=(h.out.below h2.out).cells
  have k2:=k0 _ rfl (by omega)
  rw[ha]at d2
  clear k0
  go_wp2_with fail
  go_ret2
  exact⟨by rw[hn.out];rfl,h2⟩
 ·have hn:Hid (mnumL m (j:Int)=none):=by show _=_;unfold mnumL;rw[if_neg (by omega)]
  have hlt:((m.imps.l.length+m.funcs.l.length:Nat):Int)≤(j:Int):=by omega
  generalize m.imps.l.length+m.funcs.l.length=q at *
  clear h1 h2
  go_enter Tryz.func69,Tryz.ntmps69
  go_wp2_with fail
  refine HC.out.mono ?_;rintro e w2 ⟨rfl,h2⟩
  go_wp2_with fail
  go_ret2
  exact⟨by rw[hn.out];rfl,h2⟩
def sigL (m:MoL) (f:Int):Option SgL:=(mnumL m f).bind fun n=>if inB n m.sigs.l.length then m.sigs.l[n.toNat]? else none
def sigV:Option SgL→Value
 | some s=>.tuple #[.agg #[s.p.val,s.r.val],.bool true]
 | none=>.tuple #[.agg #[.slice none 0 0,.slice none 0 0],.bool false]
set_option maxRecDepth 100000 in
set_option maxHeartbeats 1600000 in
theorem msig_any (g:Nat) (m:MoL) (f:Int) (w:World) (h:Hid (MoAt w g m)) (hm:m.imps.l.length≤1000000) (hf:m.funcs.l.length≤1000000) (hs:m.sigs.l.length≤1000000) (hf1:-9223372036854775808≤f) (hf2:f≤9223372036854775807) :
  Calls Tryz.prog 56 #[.pointer (some ⟨g,0,none⟩),.int .i64 f] w fun e w'=>e=.returned (sigV (sigL m f))∧Hid (Below w.heap.size w w'):=by
 obtain⟨W,hW,hb,hx,hsz⟩:=box_new w #[.slice none 0 0,.slice none 0 0] 74
 have hM:=hide (h.out.below hb)
 have HC:=hide (mnumber_any g m f W hM hm hf hf1 hf2)
 have HB:=hide hb;have HW:=hide hW;have HX:=hide hx
 clear hb hW hx hsz
 cases hq:mnumL m f with
 | none =>
  have hn:Hid (sigL m f=none):=by show _=_;unfold sigL;rw[hq];rfl
  rw[hq]at HC
  unfold mnumV at HC
  clear hq
  go_enter Tryz.func56,Tryz.ntmps56
  go_upto_region 1 with fail
  rw[HW.out]
  go_wp2_with fail
  refine HC.out.mono ?_;rintro e w2 ⟨rfl,h2⟩
  have hx2:=(h2.out.block w.heap.size (blk_lt HX.out)).trans HX.out
  have e0:=cell_blk hx2 0
  have e1:=cell_blk hx2 1
  simp at e0 e1
  have z0:=frozen_blk hx2 0
  have z1:=frozen_blk hx2 1
  obtain⟨f0,f1,hbb⟩:=set_two hx2 (.slice none 0 0) (.slice none 0 0) (Nat.le_refl w.heap.size)
  have h9:=hide (HB.out.trans (h2.out.mono HB.out.size))
  have HBB:=hide hbb
  clear hx2 hbb h2 HC
  go_wp2_with fail
  refine bodyPost_ret (v:=.tuple #[.agg #[(.slice none 0 0),(.slice none 0 0)],.bool false]) (by simp[results,Tryz.results56,go_sem,f0,f1]) rfl ?_
  exact⟨by rw[hn.out];rfl,h9.out.trans HBB.out⟩
 | some n =>
  rw[hq]at HC
  unfold mnumV at HC
  have HH:=hide (fun W=>mhas_any n (m.sigs.l.length:Int) W)
  rw[inI_nat]at HH
  cases hi:inB n m.sigs.l.length with
  | false =>
   have hn:Hid (sigL m f=none):=by show _=_;unfold sigL;rw[hq];show (if inB n m.sigs.l.length then _ else none)=none;rw[hi];rfl
   rw[hi]at HH
   clear hq hi
   go_enter Tryz.func56,Tryz.ntmps56
   go_upto_region 1 with fail
   rw[HW.out]
   go_wp2_with fail
   refine HC.out.mono ?_;rintro e w2 ⟨rfl,h2⟩
   obtain⟨c0,_,_,_,_,_,_,_,_,_⟩:=(hM.out.below h2.out).cells
   have hx2:=(h2.out.block w.heap.size (blk_lt HX.out)).trans HX.out
   have e0:=cell_blk hx2 0
   have e1:=cell_blk hx2 1
   simp at e0 e1
   have z0:=frozen_blk hx2 0
   have z1:=frozen_blk hx2 1
   obtain⟨f0,f1,hbb⟩:=set_two hx2 (.slice none 0 0) (.slice none 0 0) (Nat.le_refl w.heap.size)
   have h9:=hide (HB.out.trans (h2.out.mono HB.out.size))
   have HBB:=hide hbb
   clear hx2 hbb h2 HC
   go_wp2_with fail
   refine(HH.out _).mono ?_;rintro e w3 ⟨rfl,rfl⟩
   go_wp2_with fail
   refine bodyPost_ret (v:=.tuple #[.agg #[(.slice none 0 0),(.slice none 0 0)],.bool false]) (by simp[results,Tryz.results56,go_sem,f0,f1]) rfl ?_
   exact⟨by rw[hn.out];rfl,h9.out.trans HBB.out⟩
  | true =>
   obtain⟨i1,i2⟩:=inB_iff.1 hi
   obtain⟨k,rfl⟩:∃k:Nat,n=(k:Int):=⟨n.toNat,by omega⟩
   have hk:k<m.sigs.l.length:=by omega
   obtain⟨x,hx⟩:∃x,m.sigs.l[k]?=some x:=⟨_,List.getElem?_eq_getElem hk⟩
   have hn:Hid (sigL m f=some x):=by show _=_;unfold sigL;rw[hq];show (if inB (k:Int) m.sigs.l.length then m.sigs.l[(k:Int).toNat]? else none)=_;rw[hi,if_pos rfl,Int.toNat_natCast,hx]
   rw[hi]at HH
   have HHX:=hide hx
   clear hq hi hx i1 i2
   go_enter Tryz.func56,Tryz.ntmps56
   go_upto_region 1 with fail
   rw[HW.out]
   go_wp2_with fail
   refine HC.out.mono ?_;rintro e w2 ⟨rfl,h2⟩
   obtain⟨c0,_,_,_,_,_,_,_,_,_⟩:=(hM.out.below h2.out).cells
   obtain⟨ad,ha,_,k0,kj⟩:=(hM.out.below h2.out).in_.sigs.at_ (fun _=>rfl) HHX.out
   have k1:=k0 _ rfl (by omega)
   have k2:=kj 1 (by omega) (by omega) _ rfl
   simp only[Sl.val]at k1 k2
   rw[ha]at c0
   have hx2:=(h2.out.block w.heap.size (blk_lt HX.out)).trans HX.out
   have e0:=cell_blk hx2 0
   have e1:=cell_blk hx2 1
   simp at e0 e1
   have z0:=frozen_blk hx2 0
   have z1:=frozen_blk hx2 1
   obtain⟨f0,f1,hbb⟩:=set_two hx2 (.slice x.p.at_ x.p.l.length x.p.cap) (.slice x.r.at_ x.r.l.length x.r.cap) (Nat.le_refl w.heap.size)
   have h9:=hide (HB.out.trans (h2.out.mono HB.out.size))
   have HBB:=hide hbb
   clear hx2 hbb h2 HC k0 kj
   go_wp2_with fail
   refine(HH.out _).mono ?_;rintro e w3 ⟨rfl,rfl⟩
   go_wp2_with fail
   refine bodyPost_ret (v:=.tuple #[.agg #[.slice x.p.at_ x.p.l.length x.p.cap,.slice x.r.at_ x.r.l.length x.r.cap],.bool true]) (by simp[results,Tryz.results56,go_sem,f0,f1]) rfl ?_
   exact⟨by rw[hn.out];rfl,h9.out.trans HBB.out⟩
end Go.Proofs.YtmekgpdfiimofaaGreatDoor
