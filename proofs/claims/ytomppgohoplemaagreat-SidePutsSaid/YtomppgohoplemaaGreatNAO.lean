import Derived.Test.YtomppgohoplemaaGreatNAN
import Derived.Test.YtomppgohoplemaaGreatNAI
import Derived.Test.YtomppgohoplemaaGreatNAC
import Derived.Test.YtomppgohoplemaaGreatNAK
import Derived.Test.YtomppgohoplemaaGreatNAL
import Derived.Test.YtomppgohoplemaaGreatNAH
import Derived.Laws.Strings2
import Derived.Laws.Strings3
import Derived.Lib.Strings
import Derived.Test.YtomppgohoplemaaGreatRows
import Derived.Test.YtomppgohoplemaaGreatNAA
import Derived.Outline
import Derived.Maps.RangeWalk
import Derived.Deep.DeepCutAuto
import Derived.IntWalk
set_option linter.unusedVariables false
namespace Go.Proofs.YtomppgohoplemaaGreat
open Go.RowKit
def WPost (w:World) (nb:Nat) (Al:Option Addr) (n cl:Nat) (vs vo:Value) (r:Nat×Nat×NS) (e:Ending) (w':World):Prop :=
 ∃vs' vo',e=.returned (.tuple #[.int .i64 (r.1:Int),.int .i64 (r.2.1:Int)])∧Hid (NE w' nb Al n cl vs' vo' r.2.2)∧Hid (NW w w' nb vs vo vs' vo')
theorem IL.below {w w':World} {nb:Nat} {Al:Option Addr} {n:Nat} {xs:List (Int×Int×Int×Int×Value)} {cs:List Int} (h:IL w Al n xs cs) (hr:Reads w nb 5 Al n (xs.flatMap insD)) (hb:Below nb w w') (hs:nb≤w'.heap.size):IL w' Al n xs cs :=
 ⟨(hr.below hb).more hs,h.len,h.codes,h.bd,h.one⟩
theorem drop_cons {α:Type} {l:List α} {k:Nat} {c:α} (h:l[k]?=some c):l.drop k=c::l.drop (k+1):=by
 obtain⟨hk,hv⟩:=List.getElem?_eq_some_iff.1 h
 rw[List.drop_eq_getElem_cons hk,hv]
set_option maxHeartbeats 1600000 in
theorem walk_any (nb:Nat) (Al:Option Addr) (n cl:Nat) (vs vo:Value) (w:World) (xs:List (Int×Int×Int×Int×Value)) (cs:List Int) (h:Hid (NE w nb Al n cl vs vo initN)) (hI:Hid (IL w Al n xs cs)) (hr:Hid (Reads w nb 5 Al n (xs.flatMap insD))) (hn:n≤900000) :
  Calls Tryz.prog 32 #[.pointer (some ⟨nb,0,none⟩)] w (WPost w nb Al n cl vs vo (goN cs cs 0 initN)):=by
 have hcn:cs.length=n:=by rw[←hI.out.codes,List.length_map,hI.out.len]
 have HCN:=hide hcn;clear hcn
 have e0:=cell_blk h.out.blk 0
 simp at e0
 go_enter Tryz.func32,Tryz.ntmps32
 go_wp2_with fail
 go_loopw [11] (fun i w1=>∃(k:Nat) (vs1 vo1:Value) (s1:NS),i=.int .i64 k∧k≤n∧Hid (NE w1 nb Al n cl vs1 vo1 s1)∧Hid (NW w w1 nb vs vo vs1 vo1)∧Hid (NInv cs k s1)∧Hid (NSz k s1)∧Hid (goN cs cs 0 initN=goN cs (cs.drop k) k s1)) (fun i _=>n-(intOf i).toNat)
 case atStart=>exact⟨0,vs,vo,initN,rfl,by omega,h,⟨Only.refl _ _,Lies.refl _ _,Lies.refl _ _⟩,NInv.init cs,⟨by simp[initN],by simp[initN],by simp[initN]⟩,rfl⟩
 case round =>
  obtain⟨k,vs1,vo1,s1,rfl,hk,h1,hw1,hInv,hS,hg⟩:=hrel
  by_cases hlt:k<n
  ·obtain⟨c,hc⟩:∃c,cs[k]?=some c:=⟨_,List.getElem?_eq_getElem (by rw[HCN.out];exact hlt)⟩
   have HC:=hide hc;clear hc
   have I1:=hide (hI.out.below hr.out (hw1.out.below h.out) (Nat.le_of_lt (blk_lt h1.out.blk)))
   have HST:=hide (step_any nb Al n cl vs1 vo1 s1 k c wr xs cs h1 I1 hInv hS hlt hn HC)
   obtain⟨en,s2,hE⟩:∃en s2,stepN cs c k s1=(en,s2):=⟨_,_,rfl⟩
   rw[hE]at HST
   have HE:=hide hE;clear hE
   go_wp2_with fail
   refine HST.out.mono ?_;rintro e w2 ⟨vs2,vo2,rfl,k1,k2⟩
   have hgo:=hg.out
   rw[drop_cons HC.out,goN,HE.out]at hgo
   simp only at hgo
   by_cases hen:en=0
   ·subst hen
    rw[if_neg (by omega)]at hgo
    have HGO:=hide hgo;clear hgo
    have hi2:=hide (hInv.out.step HC.out (by rw[HE.out]))
    have hs2:=hide (hS.out.step (cs:=cs) (c:=c))
    rw[HE.out]at hi2 hs2
    go_wp2_with fail
    go_roundw
    case rel=>exact⟨k+1,vs2,vo2,s2,by go_num,by omega,k1,hw1.out.trans k2.out,hi2,hs2,HGO⟩
    case measure=>simp[intOf]<;>omega
   ·rw[if_pos hen]at hgo
    have HGO:=hide hgo;clear hgo
    have f0:((en:Int)==0)=false:=by simp;omega
    have f1:((en:Int) != 0)=true:=by simp;omega
    clear hen
    go_wp2_with fail
    go_ret2
    rw[HGO.out]
    exact⟨vs2,vo2,rfl,k1,hw1.out.trans k2.out⟩
  ·have hkn:k=n:=by omega
   clear hlt
   have hgo:=hg.out
   rw[List.drop_of_length_le (by rw[HCN.out];omega),goN]at hgo
   have d0:=cell_blk h1.out.blk 0
   have d3:=cell_blk h1.out.blk 3
   simp at d0 d3
   by_cases hcl:s1.closed=true
   ·rw[if_pos hcl]at hgo
    have HGO:=hide hgo;clear hgo
    rw[hcl]at d3
    clear hcl
    go_wp2_with fail
    go_ret2
    rw[HGO.out]
    exact⟨vs1,vo1,rfl,h1,hw1⟩
   ·rw[if_neg hcl,hkn]at hgo
    have HGO:=hide hgo;clear hgo
    rw[show s1.closed=false from by simpa using hcl]at d3
    clear hcl
    go_wp2_with fail
    go_ret2
    rw[HGO.out]
    exact⟨vs1,vo1,rfl,h1,hw1⟩
def SPost (w:World) (r:Nat×Nat×NS) (e:Ending) (w':World):Prop :=
 ∃v' ss,e=.returned (.tuple #[v',.int .i64 ((if r.2.1=0 then 0 else r.1:Nat):Int),.int .i64 (r.2.1:Int)])∧Hid (ss=if r.2.1=0 then r.2.2.spans else [])∧Hid (w'.ownsRow w.heap.size 100 3 v' ss.length (ss.flatMap spanD))∧Hid (Below w.heap.size w w')
set_option maxHeartbeats 800000 in
theorem spans_any (Al:Option Addr) (n cl:Nat) (w:World) (xs:List (Int×Int×Int×Int×Value)) (cs:List Int) (hI:Hid (IL w Al n xs cs)) (hn:n≤900000) :
  Calls Tryz.prog 20 #[.slice Al n cl] w (SPost w (goN cs cs 0 initN)):=by
 obtain⟨W,hW⟩:∃W,w.alloc (.cells #[.slice Al n cl,.slice none 0 0,.slice none 0 0,.bool false,.int .i64 0] 127)=W:=⟨_,rfl⟩
 have hb:Below w.heap.size w W:=by rw[←hW];exact(Below.refl _ _).alloc (Nat.le_refl _) _
 have hNE:Hid (NE W w.heap.size Al n cl (.slice none 0 0) (.slice none 0 0) initN):=by
  refine⟨by rw[←hW];exact heap_alloc_new w _,own_nil _ _ _ _,own_nil _ _ _ _,fun g hg=>by cases hg⟩
 have hsz:w.heap.size<W.heap.size:=blk_lt hNE.out.blk
 have hr:=hide (hI.out.reads.below hb)
 have hIW:Hid (IL W Al n xs cs):=⟨hr.out.more (by omega),hI.out.len,hI.out.codes,hI.out.bd,hI.out.one⟩
 have HWK:=hide (walk_any w.heap.size Al n cl _ _ W xs cs hNE hIW hr hn)
 obtain⟨pl,en,sf,hE⟩:∃pl en sf,goN cs cs 0 initN=(pl,en,sf):=⟨_,_,_,rfl⟩
 rw[hE]at HWK ⊢
 have HB:=hide hb;clear hb hE
 have HW:=hide hW;clear hW
 go_enter Tryz.func20,Tryz.ntmps20
 go_wp2_with fail
 rw[HW.out]
 refine HWK.out.mono ?_;rintro e w2 ⟨vs2,vo2,rfl,k1,k2⟩
 have hbel:Hid (Below w.heap.size w w2):=HB.out.trans (k2.out.below hNE.out)
 by_cases hen:en=0
 ·subst hen
  have d1:=cell_blk k1.out.blk 1
  simp at d1
  go_wp2_with fail
  go_ret3
  exact⟨vs2,sf.spans,rfl,by show _=_;rw[if_pos rfl],own_base k1.out.sp (fun g hg=>by have:=own_ge k1.out.sp g hg;omega),hbel⟩
 ·have f0:((en:Int)==0)=false:=by simp;omega
  have f1:((en:Int) != 0)=true:=by simp;omega
  have HEN:=hide hen;clear hen
  go_wp2_with fail
  go_ret3
  refine⟨.slice none 0 0,[],?_,by show _=_;rw[if_neg HEN.out],own_nil _ _ _ _,hbel⟩
  simp only
  rw[if_neg HEN.out]
  rfl
structure Row {α:Type} (w:World) (size:Nat) (dec:α→List Value) (s:Sl α):Prop where
 r:Reads w w.heap.size size s.at_ s.l.length (s.l.flatMap dec)
 c:s.l.length≤s.cap
 m:s.cap≤maxLen
theorem Row.below {α:Type} {w w':World} {size:Nat} {dec:α→List Value} {s:Sl α} (h:Row w size dec s) (hb:Below w.heap.size w w'):Row w' size dec s :=
 ⟨(h.r.below hb).more hb.size,h.c,h.m⟩
theorem addr_pos (a:Addr) (j:Nat) (hj:0<j):a.add j=⟨a.block,a.off+j,none⟩:=by
 conv=>lhs;unfold Addr.add
 split
 ·omega
 ·rfl
theorem Row.at_ {α:Type} {w:World} {size:Nat} {dec:α→List Value} {s:Sl α} (h:Row w size dec s) (hd:∀a,(dec a).length=size) {i:Nat} {x:α} (hx:s.l[i]?=some x) :
  ∃ad:Addr,s.at_=some ad∧ad.block<w.heap.size∧(∀u,(dec x)[0]?=some u→0<size→w.cell? (ad.add (i*size))=some u) ∧
   ∀j,0<j→j<size→∀u,(dec x)[j]?=some u→w.cell? ⟨(ad.add (i*size)).block,(ad.add (i*size)).off+j,none⟩=some u:=by
 have hi:=lt_some hx
 obtain⟨ad,h1,hb,h2⟩:=h.r.2 (by omega)
 have hk:∀j,j<size→∀u,(dec x)[j]?=some u→w.cell? ((ad.add (i*size)).add j)=some u:=by
  intro j hj u hu
  rw[add_of_add]
  refine h2 _ _ ?_
  rw[flatMap_get (size:=size) hd s.l i j x hx hj]
  exact hu
 refine⟨ad,h1,hb,fun u hu h0=>?_,fun j h0 hj u hu=>?_⟩
 ·have:=hk 0 h0 u hu
  rwa [show (ad.add (i*size)).add 0=ad.add (i*size)from by simp[Addr.add]]at this
 ·rw[←addr_pos _ j h0]
  exact hk j hj u hu
def bD (b:UInt8):List Value:=[B b]
def uD (n:Nat):List Value:=[U n]
def iD (n:Int):List Value:=[.int .i64 n]
theorem map_bD (l:List UInt8):l.flatMap bD=l.map B:=by unfold bD;rw[←List.map_eq_flatMap]
theorem map_uD (l:List Nat):l.flatMap uD=l.map U:=by unfold uD;rw[←List.map_eq_flatMap]
theorem Row.bytes {w:World} {s:Sl UInt8} (h:Row w 1 bD s):Reads w w.heap.size 1 s.at_ s.l.length (s.l.map B):=by rw[←map_bD];exact h.r
theorem Row.nums {w:World} {s:Sl Nat} (h:Row w 1 uD s):Reads w w.heap.size 1 s.at_ s.l.length (s.l.map U):=by rw[←map_uD];exact h.r
structure XL where
 code:Int
 a:Nat
 b:Nat
 al:Int
 l:Sl Nat
def XL.x (y:XL):XI:=⟨y.code,y.a,y.b,y.al,y.l.l⟩
def XL.t (y:XL):Int×Int×Int×Int×Value:=(y.code,(y.a:Int),(y.b:Int),y.al,y.l.val)
def XL.cs (y:XL):List Value:=insD y.t
structure SgL where
 p:Sl UInt8
 r:Sl UInt8
def SgL.g (y:SgL):MSg:=⟨y.p.l,y.r.l⟩
def SgL.cs (y:SgL):List Value:=[y.p.val,y.r.val]
structure BdL where
 loc:Sl UInt8
 l:Sl XL
def BdL.g (y:BdL):MBd:=⟨y.loc.l,y.l.l.map XL.x⟩
def BdL.val (y:BdL):Value:=.agg #[y.loc.val,y.l.val]
structure FuL where
 sig:Int
 bd:BdL
def FuL.g (y:FuL):MFu:=⟨y.sig,y.bd.g⟩
def FuL.cs (y:FuL):List Value:=[.int .i64 y.sig,y.bd.loc.val,y.bd.l.val]
structure ElL where
 at_:Nat
 fs:Sl Int
def ElL.g (y:ElL):MEl:=⟨y.at_,y.fs.l⟩
def ElL.cs (y:ElL):List Value:=[.int .u64 (y.at_:Int),y.fs.val]
structure DaL where
 mem:Int
 at_:Nat
 bs:Sl UInt8
def DaL.g (y:DaL):MDa:=⟨y.mem,y.at_,y.bs.l⟩
def DaL.cs (y:DaL):List Value:=[.int .i64 y.mem,.int .u64 (y.at_:Int),y.bs.val]
def MIm.cs (y:MIm):List Value:=[.string ⟨y.m.toArray⟩,.string ⟨y.n.toArray⟩,.int .i64 y.sig]
def MLm.cs (y:MLm):List Value:=[.int .i64 y.mn,.int .i64 y.mx,.bool y.wide]
def MGl.cs (y:MGl):List Value:=[.int .u8 (y.t.toNat:Int),.bool y.mu,.int .u64 (y.v:Int)]
def MEx.cs (y:MEx):List Value:=[.string ⟨y.name.toArray⟩,.int .i64 y.kind,.int .i64 y.ix]
structure MoL where
 sigs:Sl SgL
 imps:Sl MIm
 funcs:Sl FuL
 table:Int
 mems:Sl MLm
 gls:Sl MGl
 exs:Sl MEx
 start:Int
 els:Sl ElL
 das:Sl DaL
def MoL.g (m:MoL):Mo:=⟨m.sigs.l.map SgL.g,m.imps.l,m.funcs.l.map FuL.g,m.table,m.mems.l,m.gls.l,m.exs.l,m.start,m.els.l.map ElL.g,m.das.l.map DaL.g⟩
def MoL.cs (m:MoL):List Value:=[m.sigs.val,m.imps.val,m.funcs.val,.int .i64 m.table,m.mems.val,m.gls.val,m.exs.val,.int .i64 m.start,m.els.val,m.das.val]
def I64 (n:Int):Prop:=-9223372036854775808≤n∧n≤9223372036854775807
def U64 (n:Nat):Prop:=n<18446744073709551616
structure BdIn (w:World) (y:BdL):Prop where
 loc:Row w 1 bD y.loc
 l:Row w 5 XL.cs y.l
 lab:∀x∈y.l.l,Row w 1 uD x.l
 num:∀x∈y.l.l,x.x.In
theorem BdIn.below {w w':World} {y:BdL} (h:BdIn w y) (hb:Below w.heap.size w w'):BdIn w' y :=
 ⟨h.loc.below hb,h.l.below hb,fun x hx=>(h.lab x hx).below hb,h.num⟩
structure MoIn (w:World) (m:MoL):Prop where
 sigs:Row w 2 SgL.cs m.sigs
 sig:∀x∈m.sigs.l,Row w 1 bD x.p∧Row w 1 bD x.r
 imps:Row w 3 MIm.cs m.imps
 imp:∀x∈m.imps.l,I64 x.sig∧x.m.length≤9223372036854775807∧x.n.length≤9223372036854775807
 funcs:Row w 3 FuL.cs m.funcs
 func:∀x∈m.funcs.l,I64 x.sig∧BdIn w x.bd
 table:I64 m.table
 mems:Row w 3 MLm.cs m.mems
 mem:∀x∈m.mems.l,I64 x.mn∧I64 x.mx
 gls:Row w 3 MGl.cs m.gls
 gl:∀x∈m.gls.l,U64 x.v
 exs:Row w 3 MEx.cs m.exs
 ex:∀x∈m.exs.l,I64 x.kind∧I64 x.ix∧x.name.length≤9223372036854775807
 start:I64 m.start
 els:Row w 2 ElL.cs m.els
 el:∀x∈m.els.l,U64 x.at_∧Row w 1 iD x.fs∧∀n∈x.fs.l,I64 n
 das:Row w 3 DaL.cs m.das
 da:∀x∈m.das.l,I64 x.mem∧U64 x.at_∧Row w 1 bD x.bs
theorem MoIn.below {w w':World} {m:MoL} (h:MoIn w m) (hb:Below w.heap.size w w'):MoIn w' m :=
 ⟨h.sigs.below hb,fun x hx=>⟨(h.sig x hx).1.below hb,(h.sig x hx).2.below hb⟩,h.imps.below hb,h.imp,h.funcs.below hb,fun x hx=>⟨(h.func x hx).1,(h.func x hx).2.below hb⟩,h.table,
  h.mems.below hb,h.mem,h.gls.below hb,h.gl,h.exs.below hb,h.ex,h.start,h.els.below hb,fun x hx=>⟨(h.el x hx).1,(h.el x hx).2.1.below hb,(h.el x hx).2.2⟩,
  h.das.below hb,fun x hx=>⟨(h.da x hx).1,(h.da x hx).2.1,(h.da x hx).2.2.below hb⟩⟩
structure MoAt (w:World) (g:Nat) (m:MoL):Prop where
 blk:w.heap[g]?=some (.cells m.cs.toArray 82 (0,0))
 in_:MoIn w m
theorem MoAt.below {w w':World} {g:Nat} {m:MoL} (h:MoAt w g m) (hb:Below w.heap.size w w'):MoAt w' g m :=
 ⟨(hb.block g (blk_lt h.blk)).trans h.blk,h.in_.below hb⟩
theorem MoAt.lt {w:World} {g:Nat} {m:MoL} (h:MoAt w g m):g<w.heap.size:=blk_lt h.blk
theorem MoAt.cell {w:World} {g:Nat} {m:MoL} (h:MoAt w g m) {k:Nat} {u:Value} (hu:m.cs[k]?=some u):w.cell? ⟨g,k,none⟩=some u:=by
 rw[cell_blk h.blk k,List.getElem?_toArray];exact hu
structure MoCells (w:World) (g:Nat) (m:MoL):Prop where
 c0:w.cell? ⟨g,0,none⟩=some (.slice m.sigs.at_ m.sigs.l.length m.sigs.cap)
 c1:w.cell? ⟨g,1,none⟩=some (.slice m.imps.at_ m.imps.l.length m.imps.cap)
 c2:w.cell? ⟨g,2,none⟩=some (.slice m.funcs.at_ m.funcs.l.length m.funcs.cap)
 c3:w.cell? ⟨g,3,none⟩=some (.int .i64 m.table)
 c4:w.cell? ⟨g,4,none⟩=some (.slice m.mems.at_ m.mems.l.length m.mems.cap)
 c5:w.cell? ⟨g,5,none⟩=some (.slice m.gls.at_ m.gls.l.length m.gls.cap)
 c6:w.cell? ⟨g,6,none⟩=some (.slice m.exs.at_ m.exs.l.length m.exs.cap)
 c7:w.cell? ⟨g,7,none⟩=some (.int .i64 m.start)
 c8:w.cell? ⟨g,8,none⟩=some (.slice m.els.at_ m.els.l.length m.els.cap)
 c9:w.cell? ⟨g,9,none⟩=some (.slice m.das.at_ m.das.l.length m.das.cap)
theorem MoAt.cells {w:World} {g:Nat} {m:MoL} (h:MoAt w g m):MoCells w g m :=
 ⟨h.cell rfl,h.cell rfl,h.cell rfl,h.cell rfl,h.cell rfl,h.cell rfl,h.cell rfl,h.cell rfl,h.cell rfl,h.cell rfl⟩
theorem below_dr {B:Nat} {a w:World} (h:Below B a w) (n:Nat):Below B a (w.drewN n):=⟨h.os,h.tape,h.output,h.size,h.block⟩
theorem set_two {w:World} {g:Nat} {a b:Value} {t:TypeId} (h:w.heap[g]?=some (.cells #[a,b] t (0,0))) (u v:Value) {B:Nat} (hB:B≤g) :
  ((w.setCell ⟨g,0,none⟩ u).setCell ⟨g,1,none⟩ v).cell? ⟨g,0,none⟩=some u∧((w.setCell ⟨g,0,none⟩ u).setCell ⟨g,1,none⟩ v).cell? ⟨g,1,none⟩=some v∧Below B w ((w.setCell ⟨g,0,none⟩ u).setCell ⟨g,1,none⟩ v):=by
 have h2:=setCell_blk (setCell_blk h 0 u) 1 v
 exact⟨cell_blk h2 0,cell_blk h2 1,((Below.refl _ _).setCell (p:=⟨g,0,none⟩) hB _).setCell (p:=⟨g,1,none⟩) hB _⟩
theorem box_new (w:World) (cs:Array Value) (t:TypeId):∃W,w.alloc (.cells cs t)=W∧Below w.heap.size w W∧W.heap[w.heap.size]?=some (.cells cs t (0,0))∧W.heap.size=w.heap.size+1 :=
 ⟨_,rfl,(Below.refl _ _).alloc (Nat.le_refl _) _,heap_alloc_new w _,by simp⟩
theorem str_at (l:List UInt8) (k:Nat) (kd:IntKind) {c:UInt8} (hk:l[k]?=some c) (W:World):(Instr.index 9 (.string ⟨l.toArray⟩) (.int kd k)).run Tryz.prog W=.ok (.int .u8 (c.toNat:Int)) W:=by
 obtain⟨h1,h2⟩:=List.getElem?_eq_some_iff.1 hk
 have hs:(⟨l.toArray⟩:ByteArray).size=l.length:=rfl
 rw[run_index_string W 9 ⟨l.toArray⟩ kd _ Tryz.underlying9,dif_pos ⟨by omega,by rw[hs];omega⟩]
 have e:((k:Int)).toNat=k:=by omega
 simp only[e]
 subst h2
 rfl
def bitsV (t:UInt8):Int:=if t.toNat=127 then 32 else if t.toNat=126 then 64 else 0
set_option maxHeartbeats 400000 in
theorem tbits_any (t:UInt8) (w:World):Calls Tryz.prog 86 #[.int .u8 t.toNat] w fun e w'=>e=.returned (.int .i64 (bitsV t))∧w=w':=by
 unfold bitsV
 have h256:=t.toNat_lt
 generalize t.toNat=n at *
 by_cases h1:n=127
 ·subst h1
  go_enter Tryz.func86,Tryz.ntmps86
  go_wp2_with fail
  go_ret
  exact⟨rfl,rfl⟩
 ·by_cases h2:n=126
  ·subst h2
   go_enter Tryz.func86,Tryz.ntmps86
   go_wp2_with fail
   go_ret
   exact⟨rfl,rfl⟩
  ·rw[if_neg h1,if_neg h2]
   have e1:((n:Int)==127)=false:=by simp;omega
   have e2:((n:Int)==126)=false:=by simp;omega
   clear h1 h2
   go_enter Tryz.func86,Tryz.ntmps86
   go_wp2_with fail
   go_ret
   exact⟨rfl,rfl⟩
def badT (t:UInt8):Bool:=decide (t.toNat≠127)&&decide (t.toNat≠126)
theorem badT_bits (t:UInt8):(bitsV t==0)=badT t:=by
 unfold bitsV badT
 by_cases h1:t.toNat=127
 ·simp[h1]
 ·by_cases h2:t.toNat=126
  ·simp[h2]
  ·simp[h1,h2]
set_option maxHeartbeats 400000 in
theorem few1_any (t:UInt8) (w:World):Calls Tryz.prog 142 #[.int .u8 t.toNat] w fun e w'=>e=.returned (.bool (badT t))∧w=w':=by
 have hb:=badT_bits t
 have H:=hide (tbits_any t w)
 generalize bitsV t=x at H hb
 generalize badT t=q at *
 go_enter Tryz.func142,Tryz.ntmps142
 go_wp2_with fail
 refine H.out.mono ?_;rintro e w' ⟨rfl,rfl⟩
 go_wp2_with fail
 go_ret
 exact⟨rfl,rfl⟩
set_option maxHeartbeats 800000 in
theorem indexFunc_any (A:Option Addr) (cap:Nat) (ts:List UInt8) (w:World) (hr:Hid (Reads w w.heap.size 1 A ts.length (ts.map B))) (hl:ts.length≤1000) :
  Calls Tryz.prog 123 #[.slice A ts.length cap,.func (.func 142) #[] #[]] w fun e w'=>∃i:Int,e=.returned (.int .i64 i)∧-1≤i∧decide (0≤i)=ts.any badT∧w=w':=by
 go_enter Tryz.func123,Tryz.ntmps123
 go_wp2_with fail
 go_loop [5,8] (fun _ i=>∃k:Nat,i=.int .i64 k∧k≤ts.length∧Hid ((ts.take k).any badT=false)) (fun _ i=>ts.length-(intOf i).toNat)
 case atStart=>exact⟨0,rfl,by omega,by show _=_;simp⟩
 case round =>
  obtain⟨k,rfl,hk,hin⟩:=hrel
  by_cases hlt:k<ts.length
  ·obtain⟨ad,c,rfl,hc,hcell,hc0,hc1⟩:=hr.out.byte (k:=k) hlt
   have hst:ts.take (k+1)=ts.take k++[c]:=by rw[List.take_add_one,hc.out];rfl
   have HST:=hide hst
   have HF:=hide (few1_any c w)
   clear hst
   obtain⟨q,hq⟩:∃q,badT c=q:=⟨_,rfl⟩
   rw[hq]at HF
   have HQ:=hide hq
   clear hq
   cases q with
   | true =>
    go_wp2_with fail
    refine HF.out.mono ?_;rintro e w' ⟨rfl,rfl⟩
    go_wp2_with fail
    go_ret
    refine⟨k,rfl,by omega,?_,rfl⟩
    rw[decide_eq_true (by omega)]
    symm
    rw[List.any_eq_true]
    exact⟨c,List.mem_of_getElem? hc.out,HQ.out⟩
   | false =>
    go_wp2_with fail
    refine HF.out.mono ?_;rintro e w' ⟨rfl,rfl⟩
    go_wp2_with fail
    go_round
    case rel =>
     refine⟨k+1,by go_num,by omega,?_⟩
     show _=_
     rw[HST.out,List.any_append,hin.out]
     simp[HQ.out]
    case measure=>simp[intOf]<;>omega
  ·have hkk:k=ts.length:=by omega
   subst hkk
   have hfin:=hin.out
   rw[List.take_length]at hfin
   have HFI:=hide hfin
   clear hlt hfin hin
   go_wp2_with fail
   go_ret
   exact⟨-1,rfl,by omega,by rw[HFI.out];rfl,rfl⟩
set_option maxHeartbeats 400000 in
theorem containsFunc_any (A:Option Addr) (cap:Nat) (ts:List UInt8) (w:World) (hr:Hid (Reads w w.heap.size 1 A ts.length (ts.map B))) (hl:ts.length≤1000) :
  Calls Tryz.prog 99 #[.slice A ts.length cap,.func (.func 142) #[] #[]] w fun e w'=>e=.returned (.bool (ts.any badT))∧w=w':=by
 have H:=hide (indexFunc_any A cap ts w hr hl)
 go_enter Tryz.func99,Tryz.ntmps99
 go_wp2_with fail
 refine H.out.mono ?_;rintro e w' ⟨i,rfl,hi,hd,rfl⟩
 have HD:=hide hd
 clear hd
 go_wp2_with fail
 go_ret
 exact⟨by rw[←HD.out];rfl,rfl⟩
def fewT (ts:List UInt8):Bool:=decide (ts.length≤20)&&!ts.any badT
set_option maxHeartbeats 800000 in
theorem few_any (A:Option Addr) (cap:Nat) (ts:List UInt8) (w:World) (hr:Hid (Reads w w.heap.size 1 A ts.length (ts.map B))) (hl:ts.length≤1000) :
  Calls Tryz.prog 114 #[.slice A ts.length cap] w fun e w'=>e=.returned (.bool (fewT ts))∧w=w':=by
 have H:=hide (containsFunc_any A cap ts w hr hl)
 unfold fewT
 by_cases h:ts.length≤20
 ·rw[decide_eq_true h]
  generalize ts.any badT=q at H ⊢
  go_enter Tryz.func114,Tryz.ntmps114
  go_wp2_with fail
  refine H.out.mono ?_;rintro e w' ⟨rfl,rfl⟩
  go_wp2_with fail
  go_ret
  exact⟨by simp,rfl⟩
 ·rw[decide_eq_false h]
  have h2:20<ts.length:=by omega
  clear h
  go_enter Tryz.func114,Tryz.ntmps114
  go_wp2_with fail
  go_ret
  exact⟨by simp,rfl⟩
structure SigIs (w:World) (v:Value) (ps rs:List UInt8):Prop where
 ex:∃A1 c1 A2 c2,v=.agg #[.slice A1 ps.length c1,.slice A2 rs.length c2]∧Hid (Reads w w.heap.size 1 A1 ps.length (ps.map B))∧Hid (Reads w w.heap.size 1 A2 rs.length (rs.map B))
theorem SigIs.below {w w':World} {v:Value} {ps rs:List UInt8} (h:SigIs w v ps rs) (hb:Below w.heap.size w w'):SigIs w' v ps rs:=by
 obtain⟨A1,c1,A2,c2,e,h1,h2⟩:=h.ex
 exact⟨A1,c1,A2,c2,e,(h1.out.below hb).more hb.size,(h2.out.below hb).more hb.size⟩
set_option maxHeartbeats 800000 in
theorem right_any (v:Value) (ps rs:List UInt8) (w:World) (hv:Hid (SigIs w v ps rs)) (h1:ps.length≤1000) (h2:rs.length≤1000) :
  Calls Tryz.prog 78 #[v] w fun e w'=>e=.returned (.bool (fewT ps&&fewT rs))∧Below w.heap.size w w':=by
 obtain⟨A1,c1,A2,c2,rfl,r1,r2⟩:=hv.out.ex
 have HF1:=hide (fun W (h:Below w.heap.size w W)=>few_any A1 c1 ps W ((r1.out.below h).more h.size) h1)
 have HF2:=hide (fun W (h:Below w.heap.size w W)=>few_any A2 c2 rs W ((r2.out.below h).more h.size) h2)
 generalize ps.length=n1 at *
 generalize rs.length=n2 at *
 generalize fewT ps=q1 at *
 generalize fewT rs=q2 at *
 go_enter Tryz.func78,Tryz.ntmps78
 go_wp2_with fail
 refine(HF1.out _ ((Below.refl _ _).alloc (Nat.le_refl _) _)).mono ?_;rintro e w' ⟨rfl,rfl⟩
 cases q1 with
 | true =>
  go_wp2_with fail
  refine(HF2.out _ ((Below.refl _ _).alloc (Nat.le_refl _) _)).mono ?_;rintro e w' ⟨rfl,rfl⟩
  go_wp2_with fail
  go_ret
  exact⟨by simp,(Below.refl _ _).alloc (Nat.le_refl _) _⟩
 | false =>
  go_wp2_with fail
  go_ret
  exact⟨by simp,(Below.refl _ _).alloc (Nat.le_refl _) _⟩
end Go.Proofs.YtomppgohoplemaaGreat
