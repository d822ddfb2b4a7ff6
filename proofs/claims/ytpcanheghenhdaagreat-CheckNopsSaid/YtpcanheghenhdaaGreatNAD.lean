import Derived.Test.YtpcanheghenhdaaGreatRows
import Derived.Test.YtpcanheghenhdaaGreatNAA
import Derived.Test.YtpcanheghenhdaaGreatNAC
import Derived.Laws.Tables
import Derived.Outline
set_option linter.unusedVariables false
namespace Go.Proofs.YtpcanheghenhdaaGreat
open Go.RowKit
theorem blk_lt {w:World} {g:Nat} {o:Obj} (h:w.heap[g]?=some o):g<w.heap.size:=(Array.getElem?_eq_some_iff.1 h).1
theorem cell_blk {w:World} {g:Nat} {cs:Array Value} {t:TypeId} (h:w.heap[g]?=some (.cells cs t (0,0))) (i:Nat):w.cell? ⟨g,i,none⟩=cs[i]?:=cell_of_row w g i cs t (0,0) h
theorem frozen_blk {w:World} {g:Nat} {cs:Array Value} {t:TypeId} (h:w.heap[g]?=some (.cells cs t (0,0))) (i:Nat):w.frozen? ⟨g,i,none⟩=false:=by simp[World.frozen?,h]
theorem setCell_blk {w:World} {g:Nat} {cs:Array Value} {t:TypeId} (h:w.heap[g]?=some (.cells cs t (0,0))) (i:Nat) (u:Value):(w.setCell ⟨g,i,none⟩ u).heap[g]?=some (.cells (cs.setIfInBounds i u) t (0,0)):=by
 simp[World.setCell,Array.getElem?_modify,h]
theorem Only.drewN (S:List Nat) (w:World) (d:Nat):Only S w (w.drewN d):=⟨rfl,rfl,rfl,Nat.le_refl _,fun _ _ _=>rfl⟩
theorem Only.cell_some {S:List Nat} {w w':World} (ho:Only S w w') {p:Addr} {v:Value} (h:w.cell? p=some v) (hS:p.block∉S):w'.cell? p=some v:=by
 have hlt:p.block<w.heap.size:=by
  apply Decidable.byContradiction
  intro hn
  rw[World.cell?,Array.getElem?_eq_none (by omega)]at h
  cases h
 rw[World.cell?,ho.block _ hlt hS]
 exact h
theorem own_lt {w:World} {base:Nat} {e:TypeId} {size n:Nat} {v:Value} {xs:List Value} (h:w.ownsRow base e size v n xs):∀g,v.ownBlock=some g→g<w.heap.size:=fun g hg=>(h.lt g hg).2
theorem own_only3 {w w':World} {base:Nat} {e:TypeId} {size n:Nat} {v:Value} {xs:List Value} {S:List Nat} (h:w.ownsRow base e size v n xs) (ho:Only S w w') (hS:∀g,v.ownBlock=some g→g∉S):w'.ownsRow base e size v n xs:=by
 refine⟨h.1,?_⟩
 rcases h.2 with hn|⟨g,cap,cur,rfl,hbg,hh,rest⟩
 ·exact .inl hn
 ·exact .inr ⟨g,cap,cur,rfl,hbg,(ho.block g (Array.getElem?_eq_some_iff.1 hh).1 (hS g rfl)).trans hh,rest⟩
structure CellsOf (w:World) (B g:Nat) (cs:Array Value):Prop where
 out:∀W,grew w W→∀i u,cs[i]?=some u→W.cell? ⟨g,i,none⟩=some u
 size:∀W,grew w W→B≤W.heap.size
theorem CellsOf.of {w:World} {B g:Nat} {cs:Array Value} {t:TypeId} (h:w.heap[g]?=some (.cells cs t (0,0))) (hB:B≤w.heap.size):CellsOf w B g cs :=
 ⟨fun W hW i u hu=>by rw[cell_blk ((hW.block g (blk_lt h)).trans h) i];exact hu,fun W hW=>Nat.le_trans hB hW.size⟩
theorem setRow_blk {w:World} {g:Nat} {old cs:Array Value} {t:TypeId} (h:w.heap[g]?=some (.cells old t (0,0))):(w.setRow g cs).heap[g]?=some (.cells cs t (0,0)):=by
 simp[World.setRow,Array.getElem?_modify,h]
theorem setRow_only (w:World) (g:Nat) (cs:Array Value):Only [g] w (w.setRow g cs) :=
 ⟨rfl,rfl,rfl,by simp[World.setRow],fun i hi hS=>by
  have hne:¬g=i:=fun e=>hS (by simp[e])
  simp[World.setRow,Array.getElem?_modify,hne]⟩
def refNames:List ByteArray:=[⟨#[117,110,114,101,97,99,104,97,98,108,101]⟩,⟨#[110,111,112]⟩,⟨#[98,108,111,99,107]⟩,⟨#[108,111,111,112]⟩,⟨#[105,102]⟩,⟨#[101,108,115,101]⟩,⟨#[]⟩,⟨#[]⟩,⟨#[]⟩,⟨#[]⟩,⟨#[]⟩,⟨#[101,110,100]⟩,⟨#[98,114]⟩,⟨#[98,114,95,105,102]⟩,⟨#[98,114,95,116,97,98,108,101]⟩,⟨#[114,101,116,117,114,110]⟩,⟨#[99,97,108,108]⟩,⟨#[99,97,108,108,95,105,110,100,105,114,101,99,116]⟩,⟨#[]⟩,⟨#[]⟩,⟨#[]⟩,⟨#[]⟩,⟨#[]⟩,⟨#[]⟩,⟨#[]⟩,⟨#[]⟩,⟨#[100,114,111,112]⟩,⟨#[115,101,108,101,99,116]⟩,⟨#[]⟩,⟨#[]⟩,⟨#[]⟩,⟨#[]⟩,⟨#[108,111,99,97,108,46,103,101,116]⟩,⟨#[108,111,99,97,108,46,115,101,116]⟩,⟨#[108,111,99,97,108,46,116,101,101]⟩,⟨#[103,108,111,98,97,108,46,103,101,116]⟩,⟨#[103,108,111,98,97,108,46,115,101,116]⟩,⟨#[]⟩,⟨#[]⟩,⟨#[]⟩,⟨#[105,51,50,46,108,111,97,100]⟩,⟨#[105,54,52,46,108,111,97,100]⟩,⟨#[]⟩,⟨#[]⟩,⟨#[105,51,50,46,108,111,97,100,56,95,115]⟩,⟨#[105,51,50,46,108,111,97,100,56,95,117]⟩,⟨#[105,51,50,46,108,111,97,100,49,54,95,115]⟩,⟨#[105,51,50,46,108,111,97,100,49,54,95,117]⟩,⟨#[105,54,52,46,108,111,97,100,56,95,115]⟩,⟨#[105,54,52,46,108,111,97,100,56,95,117]⟩,⟨#[105,54,52,46,108,111,97,100,49,54,95,115]⟩,⟨#[105,54,52,46,108,111,97,100,49,54,95,117]⟩,⟨#[105,54,52,46,108,111,97,100,51,50,95,115]⟩,⟨#[105,54,52,46,108,111,97,100,51,50,95,117]⟩,⟨#[105,51,50,46,115,116,111,114,101]⟩,⟨#[105,54,52,46,115,116,111,114,101]⟩,⟨#[]⟩,⟨#[]⟩,⟨#[105,51,50,46,115,116,111,114,101,56]⟩,⟨#[105,51,50,46,115,116,111,114,101,49,54]⟩,⟨#[105,54,52,46,115,116,111,114,101,56]⟩,⟨#[105,54,52,46,115,116,111,114,101,49,54]⟩,⟨#[105,54,52,46,115,116,111,114,101,51,50]⟩,⟨#[109,101,109,111,114,121,46,115,105,122,101]⟩,⟨#[109,101,109,111,114,121,46,103,114,111,119]⟩,⟨#[105,51,50,46,99,111,110,115,116]⟩,⟨#[105,54,52,46,99,111,110,115,116]⟩,⟨#[]⟩,⟨#[]⟩,⟨#[105,51,50,46,101,113,122]⟩,⟨#[105,51,50,46,101,113]⟩,⟨#[105,51,50,46,110,101]⟩,⟨#[105,51,50,46,108,116,95,115]⟩,⟨#[105,51,50,46,108,116,95,117]⟩,⟨#[105,51,50,46,103,116,95,115]⟩,⟨#[105,51,50,46,103,116,95,117]⟩,⟨#[105,51,50,46,108,101,95,115]⟩,⟨#[105,51,50,46,108,101,95,117]⟩,⟨#[105,51,50,46,103,101,95,115]⟩,⟨#[105,51,50,46,103,101,95,117]⟩,⟨#[105,54,52,46,101,113,122]⟩,⟨#[105,54,52,46,101,113]⟩,⟨#[105,54,52,46,110,101]⟩,⟨#[105,54,52,46,108,116,95,115]⟩,⟨#[105,54,52,46,108,116,95,117]⟩,⟨#[105,54,52,46,103,116,95,115]⟩,⟨#[105,54,52,46,103,116,95,117]⟩,⟨#[105,54,52,46,108,101,95,115]⟩,⟨#[105,54,52,46,108,101,95,117]⟩,⟨#[105,54,52,46,103,101,95,115]⟩,⟨#[105,54,52,46,103,101,95,117]⟩,⟨#[]⟩,⟨#[]⟩,⟨#[]⟩,⟨#[]⟩,⟨#[]⟩,⟨#[]⟩,⟨#[]⟩,⟨#[]⟩,⟨#[]⟩,⟨#[]⟩,⟨#[]⟩,⟨#[]⟩,⟨#[105,51,50,46,99,108,122]⟩,⟨#[105,51,50,46,99,116,122]⟩,⟨#[105,51,50,46,112,111,112,99,110,116]⟩,⟨#[105,51,50,46,97,100,100]⟩,⟨#[105,51,50,46,115,117,98]⟩,⟨#[105,51,50,46,109,117,108]⟩,⟨#[105,51,50,46,100,105,118,95,115]⟩,⟨#[105,51,50,46,100,105,118,95,117]⟩,⟨#[105,51,50,46,114,101,109,95,115]⟩,⟨#[105,51,50,46,114,101,109,95,117]⟩,⟨#[105,51,50,46,97,110,100]⟩,⟨#[105,51,50,46,111,114]⟩,⟨#[105,51,50,46,120,111,114]⟩,⟨#[105,51,50,46,115,104,108]⟩,⟨#[105,51,50,46,115,104,114,95,115]⟩,⟨#[105,51,50,46,115,104,114,95,117]⟩,⟨#[105,51,50,46,114,111,116,108]⟩,⟨#[105,51,50,46,114,111,116,114]⟩,⟨#[105,54,52,46,99,108,122]⟩,⟨#[105,54,52,46,99,116,122]⟩,⟨#[105,54,52,46,112,111,112,99,110,116]⟩,⟨#[105,54,52,46,97,100,100]⟩,⟨#[105,54,52,46,115,117,98]⟩,⟨#[105,54,52,46,109,117,108]⟩,⟨#[105,54,52,46,100,105,118,95,115]⟩,⟨#[105,54,52,46,100,105,118,95,117]⟩,⟨#[105,54,52,46,114,101,109,95,115]⟩,⟨#[105,54,52,46,114,101,109,95,117]⟩,⟨#[105,54,52,46,97,110,100]⟩,⟨#[105,54,52,46,111,114]⟩,⟨#[105,54,52,46,120,111,114]⟩,⟨#[105,54,52,46,115,104,108]⟩,⟨#[105,54,52,46,115,104,114,95,115]⟩,⟨#[105,54,52,46,115,104,114,95,117]⟩,⟨#[105,54,52,46,114,111,116,108]⟩,⟨#[105,54,52,46,114,111,116,114]⟩,⟨#[]⟩,⟨#[]⟩,⟨#[]⟩,⟨#[]⟩,⟨#[]⟩,⟨#[]⟩,⟨#[]⟩,⟨#[]⟩,⟨#[]⟩,⟨#[]⟩,⟨#[]⟩,⟨#[]⟩,⟨#[]⟩,⟨#[]⟩,⟨#[]⟩,⟨#[]⟩,⟨#[]⟩,⟨#[]⟩,⟨#[]⟩,⟨#[]⟩,⟨#[]⟩,⟨#[]⟩,⟨#[]⟩,⟨#[]⟩,⟨#[]⟩,⟨#[]⟩,⟨#[]⟩,⟨#[]⟩,⟨#[105,51,50,46,119,114,97,112,95,105,54,52]⟩,⟨#[]⟩,⟨#[]⟩,⟨#[]⟩,⟨#[]⟩,⟨#[105,54,52,46,101,120,116,101,110,100,95,105,51,50,95,115]⟩,⟨#[105,54,52,46,101,120,116,101,110,100,95,105,51,50,95,117]⟩,⟨#[]⟩,⟨#[]⟩,⟨#[]⟩,⟨#[]⟩,⟨#[]⟩,⟨#[]⟩,⟨#[]⟩,⟨#[]⟩,⟨#[]⟩,⟨#[]⟩,⟨#[]⟩,⟨#[]⟩,⟨#[]⟩,⟨#[]⟩,⟨#[]⟩,⟨#[]⟩,⟨#[]⟩,⟨#[]⟩,⟨#[105,51,50,46,101,120,116,101,110,100,56,95,115]⟩,⟨#[105,51,50,46,101,120,116,101,110,100,49,54,95,115]⟩,⟨#[105,54,52,46,101,120,116,101,110,100,56,95,115]⟩,⟨#[105,54,52,46,101,120,116,101,110,100,49,54,95,115]⟩,⟨#[105,54,52,46,101,120,116,101,110,100,51,50,95,115]⟩]
def refForm (c:Int):Int :=
 if 2≤c∧c≤4 then 1 else if c=12∨c=13 then 2 else if c=14 then 3 else if c=16 then 4 else if c=17 then 5 else if 32≤c∧c≤34 then 6 else if c=35∨c=36 then 7
 else if 40≤c∧c≤62 then 8 else if c=63∨c=64∨c=64523 then 9 else if c=64522 then 10 else if c=65∨c=66 then 11 else 0
def refForeign (c:Int):Bool :=
 if c=28∨c=37∨c=38∨c=42∨c=43∨c=56∨c=57∨c=67∨c=68∨c=208∨c=209∨c=210∨c=253 then true
 else if (91≤c∧c≤102)∨(139≤c∧c≤166)∨(168≤c∧c≤171)∨(174≤c∧c≤191)∨(64512≤c∧c≤64521)∨(64524≤c∧c≤64529)then true else false
set_option maxHeartbeats 1600000 in
theorem refForm_any (c:Int) (w:World) (h1:-9223372036854775808≤c) (h2:c≤9223372036854775807) :
  Calls Tryz.prog 60 #[.int .i64 c] w fun e w'=>e=.returned (.int .i64 (refForm c))∧w=w':=by
 have hcase:c≤1∨(2≤c∧c≤4)∨(5≤c∧c≤11)∨c=12∨c=13∨c=14∨c=15∨c=16∨c=17∨(18≤c∧c≤31)∨(32≤c∧c≤34)∨c=35∨c=36∨(37≤c∧c≤39)∨(40≤c∧c≤62)∨c=63∨c=64∨c=65∨c=66∨(67≤c∧c≤64521)∨c=64522∨c=64523∨64524≤c:=by omega
 rcases hcase with g1|⟨g1,g2⟩|⟨g1,g2⟩|rfl|rfl|rfl|rfl|rfl|rfl|⟨g1,g2⟩|⟨g1,g2⟩|rfl|rfl|⟨g1,g2⟩|⟨g1,g2⟩|rfl|rfl|rfl|rfl|⟨g1,g2⟩|rfl|rfl|g1
 ·have hv:refForm c=0:=by
   unfold refForm;repeat' (first|rfl|rw[if_pos (by omega)]|rw[if_neg (by omega)])
  rw[hv]
  have t0:decide ((2:Int)≤c)=false:=by simp;omega
  have t1:decide (c≤(4:Int))=true:=by simp;omega
  have t2:(c==12)=false:=by simp;omega
  have t3:(c==13)=false:=by simp;omega
  have t4:(c==14)=false:=by simp;omega
  have t5:(c==16)=false:=by simp;omega
  have t6:(c==17)=false:=by simp;omega
  have t7:decide ((32:Int)≤c)=false:=by simp;omega
  have t8:decide (c≤(34:Int))=true:=by simp;omega
  have t9:(c==35)=false:=by simp;omega
  have t10:(c==36)=false:=by simp;omega
  have t11:decide ((40:Int)≤c)=false:=by simp;omega
  have t12:decide (c≤(62:Int))=true:=by simp;omega
  have t13:(c==63)=false:=by simp;omega
  have t14:(c==64)=false:=by simp;omega
  have t15:(c==64523)=false:=by simp;omega
  have t16:(c==64522)=false:=by simp;omega
  have t17:(c==65)=false:=by simp;omega
  have t18:(c==66)=false:=by simp;omega
  clear hv h1 h2 g1
  go_enter Tryz.func60,Tryz.ntmps60
  go_wp2_with fail
  go_ret
  exact⟨rfl,rfl⟩
 ·have hv:refForm c=1:=by
   unfold refForm;repeat' (first|rfl|rw[if_pos (by omega)]|rw[if_neg (by omega)])
  rw[hv]
  have t0:decide ((2:Int)≤c)=true:=by simp;omega
  have t1:decide (c≤(4:Int))=true:=by simp;omega
  have t2:(c==12)=false:=by simp;omega
  have t3:(c==13)=false:=by simp;omega
  have t4:(c==14)=false:=by simp;omega
  have t5:(c==16)=false:=by simp;omega
  have t6:(c==17)=false:=by simp;omega
  have t7:decide ((32:Int)≤c)=false:=by simp;omega
  have t8:decide (c≤(34:Int))=true:=by simp;omega
  have t9:(c==35)=false:=by simp;omega
  have t10:(c==36)=false:=by simp;omega
  have t11:decide ((40:Int)≤c)=false:=by simp;omega
  have t12:decide (c≤(62:Int))=true:=by simp;omega
  have t13:(c==63)=false:=by simp;omega
  have t14:(c==64)=false:=by simp;omega
  have t15:(c==64523)=false:=by simp;omega
  have t16:(c==64522)=false:=by simp;omega
  have t17:(c==65)=false:=by simp;omega
  have t18:(c==66)=false:=by simp;omega
  clear hv h1 h2 g1 g2
  go_enter Tryz.func60,Tryz.ntmps60
  go_wp2_with fail
  go_ret
  exact⟨rfl,rfl⟩
 ·have hv:refForm c=0:=by
   unfold refForm;repeat' (first|rfl|rw[if_pos (by omega)]|rw[if_neg (by omega)])
  rw[hv]
  have t0:decide ((2:Int)≤c)=true:=by simp;omega
  have t1:decide (c≤(4:Int))=false:=by simp;omega
  have t2:(c==12)=false:=by simp;omega
  have t3:(c==13)=false:=by simp;omega
  have t4:(c==14)=false:=by simp;omega
  have t5:(c==16)=false:=by simp;omega
  have t6:(c==17)=false:=by simp;omega
  have t7:decide ((32:Int)≤c)=false:=by simp;omega
  have t8:decide (c≤(34:Int))=true:=by simp;omega
  have t9:(c==35)=false:=by simp;omega
  have t10:(c==36)=false:=by simp;omega
  have t11:decide ((40:Int)≤c)=false:=by simp;omega
  have t12:decide (c≤(62:Int))=true:=by simp;omega
  have t13:(c==63)=false:=by simp;omega
  have t14:(c==64)=false:=by simp;omega
  have t15:(c==64523)=false:=by simp;omega
  have t16:(c==64522)=false:=by simp;omega
  have t17:(c==65)=false:=by simp;omega
  have t18:(c==66)=false:=by simp;omega
  clear hv h1 h2 g1 g2
  go_enter Tryz.func60,Tryz.ntmps60
  go_wp2_with fail
  go_ret
  exact⟨rfl,rfl⟩
 ·have hv:refForm (12)=2:=by
   unfold refForm;repeat' (first|rfl|rw[if_pos (by omega)]|rw[if_neg (by omega)])
  rw[hv]
  clear hv
  go_enter Tryz.func60,Tryz.ntmps60
  go_wp2_with fail
  go_ret
  exact⟨rfl,rfl⟩
 ·have hv:refForm (13)=2:=by
   unfold refForm;repeat' (first|rfl|rw[if_pos (by omega)]|rw[if_neg (by omega)])
  rw[hv]
  clear hv
  go_enter Tryz.func60,Tryz.ntmps60
  go_wp2_with fail
  go_ret
  exact⟨rfl,rfl⟩
 ·have hv:refForm (14)=3:=by
   unfold refForm;repeat' (first|rfl|rw[if_pos (by omega)]|rw[if_neg (by omega)])
  rw[hv]
  clear hv
  go_enter Tryz.func60,Tryz.ntmps60
  go_wp2_with fail
  go_ret
  exact⟨rfl,rfl⟩
 ·have hv:refForm (15)=0:=by
   unfold refForm;repeat' (first|rfl|rw[if_pos (by omega)]|rw[if_neg (by omega)])
  rw[hv]
  clear hv
  go_enter Tryz.func60,Tryz.ntmps60
  go_wp2_with fail
  go_ret
  exact⟨rfl,rfl⟩
 ·have hv:refForm (16)=4:=by
   unfold refForm;repeat' (first|rfl|rw[if_pos (by omega)]|rw[if_neg (by omega)])
  rw[hv]
  clear hv
  go_enter Tryz.func60,Tryz.ntmps60
  go_wp2_with fail
  go_ret
  exact⟨rfl,rfl⟩
 ·have hv:refForm (17)=5:=by
   unfold refForm;repeat' (first|rfl|rw[if_pos (by omega)]|rw[if_neg (by omega)])
  rw[hv]
  clear hv
  go_enter Tryz.func60,Tryz.ntmps60
  go_wp2_with fail
  go_ret
  exact⟨rfl,rfl⟩
 ·have hv:refForm c=0:=by
   unfold refForm;repeat' (first|rfl|rw[if_pos (by omega)]|rw[if_neg (by omega)])
  rw[hv]
  have t0:decide ((2:Int)≤c)=true:=by simp;omega
  have t1:decide (c≤(4:Int))=false:=by simp;omega
  have t2:(c==12)=false:=by simp;omega
  have t3:(c==13)=false:=by simp;omega
  have t4:(c==14)=false:=by simp;omega
  have t5:(c==16)=false:=by simp;omega
  have t6:(c==17)=false:=by simp;omega
  have t7:decide ((32:Int)≤c)=false:=by simp;omega
  have t8:decide (c≤(34:Int))=true:=by simp;omega
  have t9:(c==35)=false:=by simp;omega
  have t10:(c==36)=false:=by simp;omega
  have t11:decide ((40:Int)≤c)=false:=by simp;omega
  have t12:decide (c≤(62:Int))=true:=by simp;omega
  have t13:(c==63)=false:=by simp;omega
  have t14:(c==64)=false:=by simp;omega
  have t15:(c==64523)=false:=by simp;omega
  have t16:(c==64522)=false:=by simp;omega
  have t17:(c==65)=false:=by simp;omega
  have t18:(c==66)=false:=by simp;omega
  clear hv h1 h2 g1 g2
  go_enter Tryz.func60,Tryz.ntmps60
  go_wp2_with fail
  go_ret
  exact⟨rfl,rfl⟩
 ·have hv:refForm c=6:=by
   unfold refForm;repeat' (first|rfl|rw[if_pos (by omega)]|rw[if_neg (by omega)])
  rw[hv]
  have t0:decide ((2:Int)≤c)=true:=by simp;omega
  have t1:decide (c≤(4:Int))=false:=by simp;omega
  have t2:(c==12)=false:=by simp;omega
  have t3:(c==13)=false:=by simp;omega
  have t4:(c==14)=false:=by simp;omega
  have t5:(c==16)=false:=by simp;omega
  have t6:(c==17)=false:=by simp;omega
  have t7:decide ((32:Int)≤c)=true:=by simp;omega
  have t8:decide (c≤(34:Int))=true:=by simp;omega
  have t9:(c==35)=false:=by simp;omega
  have t10:(c==36)=false:=by simp;omega
  have t11:decide ((40:Int)≤c)=false:=by simp;omega
  have t12:decide (c≤(62:Int))=true:=by simp;omega
  have t13:(c==63)=false:=by simp;omega
  have t14:(c==64)=false:=by simp;omega
  have t15:(c==64523)=false:=by simp;omega
  have t16:(c==64522)=false:=by simp;omega
  have t17:(c==65)=false:=by simp;omega
  have t18:(c==66)=false:=by simp;omega
  clear hv h1 h2 g1 g2
  go_enter Tryz.func60,Tryz.ntmps60
  go_wp2_with fail
  go_ret
  exact⟨rfl,rfl⟩
 ·have hv:refForm (35)=7:=by
   unfold refForm;repeat' (first|rfl|rw[if_pos (by omega)]|rw[if_neg (by omega)])
  rw[hv]
  clear hv
  go_enter Tryz.func60,Tryz.ntmps60
  go_wp2_with fail
  go_ret
  exact⟨rfl,rfl⟩
 ·have hv:refForm (36)=7:=by
   unfold refForm;repeat' (first|rfl|rw[if_pos (by omega)]|rw[if_neg (by omega)])
  rw[hv]
  clear hv
  go_enter Tryz.func60,Tryz.ntmps60
  go_wp2_with fail
  go_ret
  exact⟨rfl,rfl⟩
 ·have hv:refForm c=0:=by
   unfold refForm;repeat' (first|rfl|rw[if_pos (by omega)]|rw[if_neg (by omega)])
  rw[hv]
  have t0:decide ((2:Int)≤c)=true:=by simp;omega
  have t1:decide (c≤(4:Int))=false:=by simp;omega
  have t2:(c==12)=false:=by simp;omega
  have t3:(c==13)=false:=by simp;omega
  have t4:(c==14)=false:=by simp;omega
  have t5:(c==16)=false:=by simp;omega
  have t6:(c==17)=false:=by simp;omega
  have t7:decide ((32:Int)≤c)=true:=by simp;omega
  have t8:decide (c≤(34:Int))=false:=by simp;omega
  have t9:(c==35)=false:=by simp;omega
  have t10:(c==36)=false:=by simp;omega
  have t11:decide ((40:Int)≤c)=false:=by simp;omega
  have t12:decide (c≤(62:Int))=true:=by simp;omega
  have t13:(c==63)=false:=by simp;omega
  have t14:(c==64)=false:=by simp;omega
  have t15:(c==64523)=false:=by simp;omega
  have t16:(c==64522)=false:=by simp;omega
  have t17:(c==65)=false:=by simp;omega
  have t18:(c==66)=false:=by simp;omega
  clear hv h1 h2 g1 g2
  go_enter Tryz.func60,Tryz.ntmps60
  go_wp2_with fail
  go_ret
  exact⟨rfl,rfl⟩
 ·have hv:refForm c=8:=by
   unfold refForm;repeat' (first|rfl|rw[if_pos (by omega)]|rw[if_neg (by omega)])
  rw[hv]
  have t0:decide ((2:Int)≤c)=true:=by simp;omega
  have t1:decide (c≤(4:Int))=false:=by simp;omega
  have t2:(c==12)=false:=by simp;omega
  have t3:(c==13)=false:=by simp;omega
  have t4:(c==14)=false:=by simp;omega
  have t5:(c==16)=false:=by simp;omega
  have t6:(c==17)=false:=by simp;omega
  have t7:decide ((32:Int)≤c)=true:=by simp;omega
  have t8:decide (c≤(34:Int))=false:=by simp;omega
  have t9:(c==35)=false:=by simp;omega
  have t10:(c==36)=false:=by simp;omega
  have t11:decide ((40:Int)≤c)=true:=by simp;omega
  have t12:decide (c≤(62:Int))=true:=by simp;omega
  have t13:(c==63)=false:=by simp;omega
  have t14:(c==64)=false:=by simp;omega
  have t15:(c==64523)=false:=by simp;omega
  have t16:(c==64522)=false:=by simp;omega
  have t17:(c==65)=false:=by simp;omega
  have t18:(c==66)=false:=by simp;omega
  clear hv h1 h2 g1 g2
  go_enter Tryz.func60,Tryz.ntmps60
  go_wp2_with fail
  go_ret
  exact⟨rfl,rfl⟩
 ·have hv:refForm (63)=9:=by
   unfold refForm;repeat' (first|rfl|rw[if_pos (by omega)]|rw[if_neg (by omega)])
  rw[hv]
  clear hv
  go_enter Tryz.func60,Tryz.ntmps60
  go_wp2_with fail
  go_ret
  exact⟨rfl,rfl⟩
 ·have hv:refForm (64)=9:=by
   unfold refForm;repeat' (first|rfl|rw[if_pos (by omega)]|rw[if_neg (by omega)])
  rw[hv]
  clear hv
  go_enter Tryz.func60,Tryz.ntmps60
  go_wp2_with fail
  go_ret
  exact⟨rfl,rfl⟩
 ·have hv:refForm (65)=11:=by
   unfold refForm;repeat' (first|rfl|rw[if_pos (by omega)]|rw[if_neg (by omega)])
  rw[hv]
  clear hv
  go_enter Tryz.func60,Tryz.ntmps60
  go_wp2_with fail
  go_ret
  exact⟨rfl,rfl⟩
 ·have hv:refForm (66)=11:=by
   unfold refForm;repeat' (first|rfl|rw[if_pos (by omega)]|rw[if_neg (by omega)])
  rw[hv]
  clear hv
  go_enter Tryz.func60,Tryz.ntmps60
  go_wp2_with fail
  go_ret
  exact⟨rfl,rfl⟩
 ·have hv:refForm c=0:=by
   unfold refForm;repeat' (first|rfl|rw[if_pos (by omega)]|rw[if_neg (by omega)])
  rw[hv]
  have t0:decide ((2:Int)≤c)=true:=by simp;omega
  have t1:decide (c≤(4:Int))=false:=by simp;omega
  have t2:(c==12)=false:=by simp;omega
  have t3:(c==13)=false:=by simp;omega
  have t4:(c==14)=false:=by simp;omega
  have t5:(c==16)=false:=by simp;omega
  have t6:(c==17)=false:=by simp;omega
  have t7:decide ((32:Int)≤c)=true:=by simp;omega
  have t8:decide (c≤(34:Int))=false:=by simp;omega
  have t9:(c==35)=false:=by simp;omega
  have t10:(c==36)=false:=by simp;omega
  have t11:decide ((40:Int)≤c)=true:=by simp;omega
  have t12:decide (c≤(62:Int))=false:=by simp;omega
  have t13:(c==63)=false:=by simp;omega
  have t14:(c==64)=false:=by simp;omega
  have t15:(c==64523)=false:=by simp;omega
  have t16:(c==64522)=false:=by simp;omega
  have t17:(c==65)=false:=by simp;omega
  have t18:(c==66)=false:=by simp;omega
  clear hv h1 h2 g1 g2
  go_enter Tryz.func60,Tryz.ntmps60
  go_wp2_with fail
  go_ret
  exact⟨rfl,rfl⟩
 ·have hv:refForm (64522)=10:=by
   unfold refForm;repeat' (first|rfl|rw[if_pos (by omega)]|rw[if_neg (by omega)])
  rw[hv]
  clear hv
  go_enter Tryz.func60,Tryz.ntmps60
  go_wp2_with fail
  go_ret
  exact⟨rfl,rfl⟩
 ·have hv:refForm (64523)=9:=by
   unfold refForm;repeat' (first|rfl|rw[if_pos (by omega)]|rw[if_neg (by omega)])
  rw[hv]
  clear hv
  go_enter Tryz.func60,Tryz.ntmps60
  go_wp2_with fail
  go_ret
  exact⟨rfl,rfl⟩
 ·have hv:refForm c=0:=by
   unfold refForm;repeat' (first|rfl|rw[if_pos (by omega)]|rw[if_neg (by omega)])
  rw[hv]
  have t0:decide ((2:Int)≤c)=true:=by simp;omega
  have t1:decide (c≤(4:Int))=false:=by simp;omega
  have t2:(c==12)=false:=by simp;omega
  have t3:(c==13)=false:=by simp;omega
  have t4:(c==14)=false:=by simp;omega
  have t5:(c==16)=false:=by simp;omega
  have t6:(c==17)=false:=by simp;omega
  have t7:decide ((32:Int)≤c)=true:=by simp;omega
  have t8:decide (c≤(34:Int))=false:=by simp;omega
  have t9:(c==35)=false:=by simp;omega
  have t10:(c==36)=false:=by simp;omega
  have t11:decide ((40:Int)≤c)=true:=by simp;omega
  have t12:decide (c≤(62:Int))=false:=by simp;omega
  have t13:(c==63)=false:=by simp;omega
  have t14:(c==64)=false:=by simp;omega
  have t15:(c==64523)=false:=by simp;omega
  have t16:(c==64522)=false:=by simp;omega
  have t17:(c==65)=false:=by simp;omega
  have t18:(c==66)=false:=by simp;omega
  clear hv h1 h2 g1
  go_enter Tryz.func60,Tryz.ntmps60
  go_wp2_with fail
  go_ret
  exact⟨rfl,rfl⟩
theorem fill_ones (size:Nat) (hs:size=1):∀(vs:List Value) (k:Nat) (pre post:List Value),(∀v∈vs,v.cells=#[v])→pre.length=k→post.length=vs.length →
  Instr.fill (fun i=>some (i*size,size)) (pre++post).toArray ((vs.zipIdx k).map fun x=>(x.2,x.1))=some (pre++vs).toArray:=by
 subst hs
 intro vs
 induction vs with
 | nil=>intro k pre post _ hp hq;have:post=[]:=List.eq_nil_of_length_eq_zero (by simpa using hq);subst this;simp[Instr.fill]
 | cons v t ih =>
  intro k pre post h1 hp hq
  cases post with
  | nil=>simp at hq
  | cons p ps =>
   have hv:=h1 v (by simp)
   rw[List.zipIdx_cons,List.map_cons,Instr.fill]
   simp only[Nat.mul_one]
   rw[if_neg (by simp[hv,hp])]
   have hf:(v.cells.zipIdx.foldl (fun (cs:Array Value) (x:Value×Nat)=>cs.setIfInBounds (k+x.2) x.1) (pre++p::ps).toArray)=((pre++[v])++ps).toArray:=by
    rw[hv]
    have:=fold_mid [v] 0 k pre [p] ps rfl (by omega)
    rw[←Array.foldl_toList,Array.toList_zipIdx]
    simpa using this
   rw[hf]
   have:=ih (k+1) (pre++[v]) ps (fun u hu=>h1 u (by simp[hu])) (by simp[hp]) (by simpa using hq)
   simp only[Nat.mul_one]at this
   rw[this]
   simp
theorem run_buildSlice_ones {P:Program} {t e:TypeId} {bytes:Nat} (hE:IsElem P t e 1 bytes) (vs:List Value) (n:Nat) (hn:vs.length=n) (hn2:n≤10000) (h1:∀v∈vs,v.cells=#[v]) (w:World) :
  (Instr.buildSlice t n ((vs.zipIdx.map fun x=>(x.2,x.1)).toArray)).run P w=.ok (.slice (some ⟨w.heap.size,0,none⟩) n n) (w.alloc (.cells vs.toArray e)):=by
 subst hn
 obtain⟨ht,i,z,hi,hz,hsize,hby,hzs,hsz⟩:=hE
 have hz0:∀W,(zeroValue e).run P W=.ok z W:=fun W=>by simp[zeroValue,typeInfo,hi,hz]
 have hcells:∀(cs:Array Value),cs.size=vs.length→Instr.fill (fun k=>some (k,1)) cs (vs.zipIdx.map fun x=>(x.2,x.1))=some vs.toArray:=fun cs hcs=>by
  have:=fill_ones 1 rfl vs 0 [] cs.toList h1 rfl (by rw[Array.length_toList,hcs])
  simpa using this
 simp only[Instr.buildSlice,Sem.run_bind,run_underlying ht,Result.andThen_ok,sizeOf,typeInfo,Sem.run_pure]
 by_cases h0:vs.length=0
 ·have hv:vs=[]:=List.eq_nil_of_length_eq_zero h0
  subst hv
  simp[hi,Instr.fill,newRow,go_sem]
 ·simp[hi,h0,hsize,hz0,newRow,go_sem]
  rw[if_neg (by omega),hcells _ (by simp)]
  simp[go_sem]
theorem wpList_buildSlice_ones {P:Program} {ops:Array Oper} {rest:List Oper} {o:Oper} {a:Act} {w:World} {Q:Exit→Act→World→Prop} (hg:o.guard=none) (t:TypeId) (n:Nat) (parts:Array (Nat×Operand)) (ho:o.op=.buildSlice t n parts)
  {e:TypeId} {bytes:Nat} (hE:IsElem P t e 1 bytes) (vs:List Value) (hn:vs.length=n) (hn2:n≤10000) (h1:∀v∈vs,v.cells=#[v])
  (hp:parts.toList.map (fun x=>(x.1,a.eval x.2))=vs.zipIdx.map fun x=>(x.2,x.1))
  (h:wpList P ops Q rest (a.put o.dst (.slice (some ⟨w.heap.size,0,none⟩) n n)) (w.alloc (.cells vs.toArray e))):wpList P ops Q (o::rest) a w:=by
 refine wpList_plain hg fun K hK=>?_
 have hb:=run_buildSlice_ones (P:=P) hE vs n hn hn2 h1 w
 have hpp:(parts.map fun (i,x)=>(i,a.eval x))=(vs.zipIdx.map fun x=>(x.2,x.1)).toArray:=by
  apply Array.toList_inj.1
  rw[Array.toList_map]
  exact hp
 unfold Oper.wp execOp
 simp only[ho,hpp,hb,Sem.run_bind,Result.andThen_ok]
 exact hK _ _ h
end Go.Proofs.YtpcanheghenhdaaGreat
