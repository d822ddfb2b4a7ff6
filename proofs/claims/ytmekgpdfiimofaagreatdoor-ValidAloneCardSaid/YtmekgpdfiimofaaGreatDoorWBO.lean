import Derived.Test.YtmekgpdfiimofaaGreatDoorWAQ
import Derived.Test.YtmekgpdfiimofaaGreatDoorWBN
import Derived.Test.YtmekgpdfiimofaaGreatDoorWBL
import Derived.IntWalk
import Derived.Test.YtmekgpdfiimofaaGreatDoorWBM
import Derived.Test.YtmekgpdfiimofaaGreatDoorWBJ
import Derived.Test.YtmekgpdfiimofaaGreatDoorWAL
import Derived.BigQuiet
set_option linter.unusedVariables false
namespace Go.Proofs.YtmekgpdfiimofaaGreatDoor
open Go.RowKit
def LaidV (w:World):Prop:=∃ml,w.cell? ⟨1,0,none⟩=some (.int .i64 ml)
structure VIn (W:World) (xg:Nat) (m:MoL) (ml:Int):Prop where
 cells:∀V,Below W.heap.size W V→(V.cell? ⟨xg,0,none⟩=some (.slice m.sigs.at_ m.sigs.l.length m.sigs.cap)∧V.cell? ⟨xg,1,none⟩=some (.slice m.imps.at_ m.imps.l.length m.imps.cap)∧V.cell? ⟨xg,2,none⟩=some (.slice m.funcs.at_ m.funcs.l.length m.funcs.cap)∧V.cell? ⟨xg,3,none⟩=some (.int .i64 m.table)∧V.cell? ⟨xg,4,none⟩=some (.slice m.mems.at_ m.mems.l.length m.mems.cap)∧V.cell? ⟨xg,5,none⟩=some (.slice m.gls.at_ m.gls.l.length m.gls.cap)∧V.cell? ⟨xg,6,none⟩=some (.slice m.exs.at_ m.exs.l.length m.exs.cap)∧V.cell? ⟨xg,7,none⟩=some (.int .i64 m.start)∧V.cell? ⟨xg,8,none⟩=some (.slice m.els.at_ m.els.l.length m.els.cap)∧V.cell? ⟨xg,9,none⟩=some (.slice m.das.at_ m.das.l.length m.das.cap))∧MoIn V m∧V.cell? ⟨1,0,none⟩=some (.int .i64 ml)
theorem vin_of {w:World} {m:MoL} {ml:Int} (h:MoIn w m) (hml:w.cell? ⟨1,0,none⟩=some (.int .i64 ml)):∃W xg,w.alloc (.cells m.cs.toArray 31)=W∧w.heap.size=xg∧Below w.heap.size w W∧VIn W xg m ml:=by
 obtain⟨W,hW,hb,hx,_⟩:=box_new w m.cs.toArray 31
 refine⟨W,_,hW,rfl,hb,⟨fun V hV=>?_⟩⟩
 have hk:=(hV.block _ (blk_lt hx)).trans hx
 have hwV:Below w.heap.size w V:=hb.trans (hV.mono hb.size)
 exact⟨⟨cell_blk hk 0,cell_blk hk 1,cell_blk hk 2,cell_blk hk 3,cell_blk hk 4,cell_blk hk 5,cell_blk hk 6,cell_blk hk 7,cell_blk hk 8,cell_blk hk 9⟩,h.below hwV,(hwV.cell (World.block_lt_of_cell? w _ hml)).trans hml⟩
theorem vf_elem:IsElem Tryz.prog 24 44 3 56:=IsElem.mk' Tryz.underlying24 (z:=.agg #[.int .i64 0,.slice none 0 0,.slice none 0 0]) (by kernel_rfl) rfl (by omega)
theorem vcs_one {l:List FuL}:∀u∈l.flatMap FuL.cs,u.oneCell'=true:=by
 intro u hu
 obtain⟨z,_,hz⟩:=List.mem_flatMap.1 hu
 simp[FuL.cs,Sl.val]at hz
 rcases hz with rfl|rfl|rfl<;>rfl
def x0L:XL:=⟨0,0,0,0,noSl⟩
def x11L:XL:=⟨11,0,0,0,noSl⟩
def stopBd (q:Nat):BdL:=⟨noSl,⟨some ⟨q,0,none⟩,2,[x0L,x11L]⟩⟩
def stopFu (y:FuL) (q:Nat):FuL:=⟨y.sig,stopBd q⟩
theorem stopFu_bd (y:FuL) (q:Nat):(stopFu y q).g.bd=stopB:=rfl
def stopCs:Array Value:=#[.int .i64 0,.int .u64 0,.int .u64 0,.int .i64 0,.slice none 0 0,.int .i64 11,.int .u64 0,.int .u64 0,.int .i64 0,.slice none 0 0]
structure StpF (w:World) (Q:Nat) (p:Nat→Bool) (k:Nat) (l fs:List FuL):Prop where
 len:fs.length=l.length
 at_:∀j y,l[j]?=some y→(j<k∧p j=true∧∃q,fs[j]?=some (stopFu y q)∧Q≤q∧w.heap[q]?=some (.cells stopCs 38 (0,0)))∨(¬(j<k∧p j=true)∧fs[j]?=some y)
section
variable {w w':World} {Q k:Nat} {p:Nat→Bool} {l fs:List FuL} {y:FuL}
theorem StpF.zero (w:World) (Q:Nat) (p:Nat→Bool) (l:List FuL):StpF w Q p 0 l l:=⟨rfl,fun j y hy=>.inr ⟨fun h=>by omega,hy⟩⟩
theorem StpF.only {S:List Nat} (h:StpF w Q p k l fs) (ho:Only S w w') (hS:∀x∈S,x<Q):StpF w' Q p k l fs:=by
 refine⟨h.len,fun j y hy=>?_⟩
 rcases h.at_ j y hy with ⟨h1,h2,q,h3,h4,h5⟩|h1
 ·exact .inl ⟨h1,h2,q,h3,h4,(ho.block q (blk_lt h5) (fun hm=>by have:=hS q hm;omega)).trans h5⟩
 ·exact .inr h1
theorem StpF.below (h:StpF w Q p k l fs) (hb:Below w.heap.size w w'):StpF w' Q p k l fs:=h.only (S:=[]) (Only.of_below hb) (by simp)
theorem StpF.get (h:StpF w Q p k l fs) (hy:l[k]?=some y):fs[k]?=some y:=by
 rcases h.at_ k y hy with ⟨h1,_⟩|⟨_,h2⟩
 ·omega
 ·exact h2
theorem StpF.skip (h:StpF w Q p k l fs) (hp:p k=false):StpF w Q p (k+1) l fs:=by
 refine⟨h.len,fun j y hy=>?_⟩
 rcases h.at_ j y hy with ⟨h1,h2,h3⟩|⟨h1,h2⟩
 ·exact .inl ⟨by omega,h2,h3⟩
 ·refine .inr ⟨fun hh=>h1 ⟨?_,hh.2⟩,h2⟩
  by_cases e:j=k
  ·subst e;rw[hp]at hh;exact absurd hh.2 (by simp)
  ·omega
theorem StpF.put {q:Nat} (h:StpF w Q p k l fs) (hp:p k=true) (hy:l[k]?=some y) (hq:Q≤q) (hx:w.heap[q]?=some (.cells stopCs 38 (0,0))):StpF w Q p (k+1) l (fs.set k (stopFu y q)):=by
 refine⟨by rw[List.length_set];exact h.len,fun j z hz=>?_⟩
 have hk:k<fs.length:=by rw[h.len];exact(List.getElem?_eq_some_iff.1 hy).1
 by_cases e:j=k
 ·subst e
  rw[hy]at hz
  injection hz with hz
  subst hz
  exact .inl ⟨by omega,hp,q,by rw[List.getElem?_set_self hk],hq,hx⟩
 ·rw[List.getElem?_set_ne (fun h=>e h.symm)]
  rcases h.at_ j z hz with ⟨h1,h2,h3⟩|⟨h1,h2⟩
  ·exact .inl ⟨by omega,h2,h3⟩
  ·exact .inr ⟨fun hh=>h1 ⟨by omega,hh.2⟩,h2⟩
end
theorem stop_row {w:World} {q:Nat} (h:w.heap[q]?=some (.cells stopCs 38 (0,0))):BdIn w (stopBd q):=by
 have ho:w.ownsRow q 38 5 (.slice (some ⟨q,0,none⟩) 2 2) 2 ([x0L,x11L].flatMap XL.cs):=⟨by simp[XL.cs,insD],.inr ⟨q,2,stopCs,rfl,Nat.le_refl _,h,Nat.le_refl _,by unfold maxLen;omega,by simp[stopCs],by simp[stopCs,XL.cs,insD,XL.t,x0L,x11L,noSl,Sl.val]⟩⟩
 refine⟨row_none,(RowF.of_own ho rfl).row,fun x hx=>?_,fun x hx=>?_⟩
 ·simp[stopBd]at hx
  rcases hx with rfl|rfl<;>exact row_none
 ·simp[stopBd]at hx
  rcases hx with rfl|rfl<;>exact⟨by decide,by decide,by decide,by decide,by decide,by decide,fun n hn=>by simp[x0L,x11L,XL.x,noSl]at hn⟩
theorem stop_len (q:Nat):BdLen 151 61 110 (stopBd q):=by
 refine⟨by simp[stopBd,noSl],by simp[stopBd],fun x hx=>?_⟩
 simp[stopBd]at hx
 rcases hx with rfl|rfl<;>simp[x0L,x11L,noSl]
def vputF (m:MoL) (A:Option Addr) (c:Nat) (fs:List FuL):MoL:={ m with funcs:=⟨A,c,fs⟩ }
section
variable {W:World} {Q k:Nat} {p:Nat→Bool} {m:MoL} {fs:List FuL} {A:Option Addr} {c:Nat}
theorem StpF.mem (h:StpF W Q p k m.funcs.l fs) {x:FuL} (hx:x∈fs):x∈m.funcs.l∨∃y∈m.funcs.l,∃q,x=stopFu y q∧W.heap[q]?=some (.cells stopCs 38 (0,0)):=by
 obtain⟨j,hj⟩:=List.mem_iff_getElem?.1 hx
 have hlt:j<m.funcs.l.length:=by rw[←h.len];exact(List.getElem?_eq_some_iff.1 hj).1
 obtain⟨y,hy⟩:∃y,m.funcs.l[j]?=some y:=⟨_,List.getElem?_eq_getElem hlt⟩
 rcases h.at_ j y hy with ⟨_,_,q,h3,_,h5⟩|⟨_,h2⟩
 ·rw[hj]at h3
  injection h3 with h3
  exact .inr ⟨y,List.mem_of_getElem? hy,q,h3,h5⟩
 ·rw[hj]at h2
  injection h2 with h2
  subst h2
  exact .inl (List.mem_of_getElem? hy)
theorem put_in (h:MoIn W m) (hF:Row W 3 FuL.cs ⟨A,c,fs⟩) (hS:StpF W Q p k m.funcs.l fs):MoIn W (vputF m A c fs):=by
 refine⟨h.sigs,h.sig,h.imps,h.imp,hF,fun x hx=>?_,h.table,h.mems,h.mem,h.gls,h.gl,h.exs,h.ex,h.start,h.els,h.el,h.das,h.da⟩
 rcases hS.mem hx with hx|⟨y,hy,q,rfl,hq⟩
 ·exact h.func x hx
 ·exact⟨(h.func y hy).1,stop_row hq⟩
theorem put_sm (h:MoSm m) (hS:StpF W Q p k m.funcs.l fs):MoSm (vputF m A c fs):=by
 refine⟨h.sigs,h.sig,h.imps,h.imp,by show fs.length≤110;rw[hS.len];exact h.funcs,fun x hx=>?_,h.mems,h.gls,h.exs,h.ex,h.els,h.el,h.das,h.da⟩
 rcases hS.mem hx with hx|⟨y,hy,q,rfl,hq⟩
 ·exact h.func x hx
 ·exact stop_len q
theorem put_bd (hS:StpF W Q p m.funcs.l.length m.funcs.l fs) {i:Nat} (hi:i<m.funcs.l.length):(p i=true→((fs.map FuL.g).getD i noFu).bd=stopB)∧(p i=false→((fs.map FuL.g).getD i noFu).bd=(m.g.funcs.getD i noFu).bd):=by
 obtain⟨y,hy⟩:∃y,m.funcs.l[i]?=some y:=⟨_,List.getElem?_eq_getElem hi⟩
 rcases hS.at_ i y hy with ⟨_,h2,q,h3,_⟩|⟨h1,h2⟩
 ·refine⟨fun _=>?_,fun hp=>by rw[hp]at h2;cases h2⟩
  rw[getD_some (x:=(stopFu y q).g) (by simp[h3])]
  exact stopFu_bd y q
 ·refine⟨fun hp=>absurd ⟨hi,hp⟩ h1,fun _=>?_⟩
  rw[getD_some (x:=y.g) (by simp[h2]),getD_some (x:=y.g) (by simp[MoL.g,hy])]
theorem put_same (hS:StpF W Q p k m.funcs.l fs):SameF m.g (fs.map FuL.g):=by
 refine⟨by simp[MoL.g,hS.len],fun i=>?_⟩
 by_cases hi:i<m.funcs.l.length
 ·obtain⟨y,hy⟩:∃y,m.funcs.l[i]?=some y:=⟨_,List.getElem?_eq_getElem hi⟩
  have h2:m.g.funcs.getD i noFu=y.g:=getD_some (by simp[MoL.g,hy])
  rcases hS.at_ i y hy with ⟨_,_,q,h3,_⟩|⟨_,h3⟩
  ·rw[getD_some (x:=(stopFu y q).g) (by simp[h3]),h2]
   rfl
  ·rw[getD_some (x:=y.g) (by simp[h3]),h2]
 ·rw[List.getD_eq_getElem?_getD,List.getD_eq_getElem?_getD,List.getElem?_eq_none (by simp[hS.len];omega),List.getElem?_eq_none (by simp[MoL.g];omega)]
end
theorem stop_own {w:World} {base k q:Nat} {v:Value} {n:Nat} {e:TypeId} {fs:List FuL} {y:FuL} (hy:fs[k]?=some y)
  (h:w.ownsRow base e 3 v n (((fs.flatMap FuL.cs).set (k*3+1) (.slice none 0 0)).set (k*3+2) (.slice (some ⟨q,0,none⟩) 2 2))):w.ownsRow base e 3 v n ((fs.set k (stopFu y q)).flatMap FuL.cs):=by
 have hk:=(List.getElem?_eq_some_iff.1 hy).1
 have h1:(fs.flatMap FuL.cs).set (k*3+1) (.slice none 0 0)=(fs.set k ⟨y.sig,⟨noSl,y.bd.l⟩⟩).flatMap FuL.cs :=
  flatMap_set (dec:=FuL.cs) (fun _=>rfl) fs k 1 _ ⟨y.sig,⟨noSl,y.bd.l⟩⟩ _ hy (by omega) rfl
 have h2:((fs.set k ⟨y.sig,⟨noSl,y.bd.l⟩⟩).flatMap FuL.cs).set (k*3+2) (.slice (some ⟨q,0,none⟩) 2 2)=((fs.set k ⟨y.sig,⟨noSl,y.bd.l⟩⟩).set k (stopFu y q)).flatMap FuL.cs :=
  flatMap_set (dec:=FuL.cs) (fun _=>rfl) _ k 2 ⟨y.sig,⟨noSl,y.bd.l⟩⟩ (stopFu y q) _ (by rw[List.getElem?_set_self hk]) (by omega) rfl
 rw[h1,h2,List.set_set]at h
 exact h
set_option maxHeartbeats 800000 in
theorem lnamed_any (s:List UInt8) (w:World) (hl:s.length≤9223372036854775807) :
  Calls Tryz.prog 31 #[.string ⟨s.toArray⟩] w fun e w'=>e=.returned (.bool (nmB s))∧w=w':=by
 have hsz:(⟨s.toArray⟩:ByteArray).size=s.length:=rfl
 go_enter Tryz.func31,Tryz.ntmps31
 go_wp2_with fail
 go_loop [2,3] (fun r i=>∃k:Nat,r=.bool false∧i=.int .i64 k∧k≤s.length∧Hid ((s.take k).all nmC=true)) (fun _ i=>s.length-(intOf i).toNat)
 case atStart=>exact⟨0,rfl,rfl,by omega,by show _=_;simp⟩
 case round =>
  obtain⟨k,rfl,rfl,hk,hin⟩:=hrel
  by_cases hlt:k<s.length
  ·obtain⟨c,hc⟩:∃c,s[k]?=some c:=⟨_,List.getElem?_eq_getElem hlt⟩
   have hat:=str_at s k .i64 hc w
   have hst:s.take (k+1)=s.take k++[c]:=by rw[List.take_add_one,hc];rfl
   have HST:=hide hst;have HC:=hide hc
   have hc255:=c.toNat_lt
   clear hst hc
   by_cases h1:c.toNat<33
   ·have hno:Hid (nmB s=false):=by
     show _=_
     have:s.all nmC=false:=by
      rw[List.all_eq_false]
      exact⟨c,List.mem_of_getElem? HC.out,by unfold nmC;simp;omega⟩
     rw[nmB_eq,this];rfl
    have g1:decide ((c.toNat:Int)<33)=true:=by simp;omega
    clear h1
    go_wp2_with fail
    go_ret
    exact⟨by rw[hno.out];rfl,rfl⟩
   ·have g1:decide ((c.toNat:Int)<33)=false:=by simp;omega
    by_cases h2:126<c.toNat
    ·have hno:Hid (nmB s=false):=by
      show _=_
      have:s.all nmC=false:=by
       rw[List.all_eq_false]
       exact⟨c,List.mem_of_getElem? HC.out,by unfold nmC;simp;omega⟩
      rw[nmB_eq,this];rfl
     have g2:decide ((126:Int)<(c.toNat:Int))=true:=by simp;omega
     clear h1 h2
     go_wp2_with fail
     go_ret
     exact⟨by rw[hno.out];rfl,rfl⟩
    ·have g2:decide ((126:Int)<(c.toNat:Int))=false:=by simp;omega
     have hnx:Hid ((s.take (k+1)).all nmC=true):=by
      show _=_
      rw[HST.out,List.all_append,hin.out]
      simp[nmC]
      omega
     clear h1 h2
     go_wp2_with fail
     go_round
     case rel=>exact⟨k+1,rfl,by go_num,by omega,hnx⟩
     case measure=>simp[intOf]<;>omega
  ·have hk2:k=s.length:=by omega
   have hall:=hin.out
   rw[List.take_of_length_le (by omega)]at hall
   have hlt3:(s.length:Int)≤(k:Int):=by omega
   clear hlt
   by_cases h0:0<s.length
   ·have hN:Hid (nmB s=decide ((s.length:Int)≤30)):=by show _=_;rw[nmB_eq,hall,decide_eq_true h0];simp;omega
    have f1:decide ((0:Int)<(s.length:Int))=true:=decide_eq_true (by omega)
    clear hall
    go_wp2_with fail
    go_ret
    exact⟨by rw[hN.out];rfl,rfl⟩
   ·have hN:Hid (nmB s=false):=by show _=_;rw[nmB_eq,decide_eq_false h0];simp
    have f1:decide ((0:Int)<(s.length:Int))=false:=decide_eq_false (by omega)
    clear hall
    go_wp2_with fail
    go_ret
    exact⟨by rw[hN.out];rfl,rfl⟩
set_option maxHeartbeats 800000 in
theorem ltyped_any (s:Sl UInt8) (w:World) (h:Hid (Row w 1 bD s)) :
  Calls Tryz.prog 30 #[.slice s.at_ s.l.length s.cap] w fun e w'=>e=.returned (.bool (typedB s.l))∧w=w':=by
 have hlen:=sl_len h.out
 have HR:=hide h.out.bytes
 go_enter Tryz.func30,Tryz.ntmps30
 go_wp2_with fail
 go_loop [2,3] (fun r i=>∃k:Nat,r=.bool false∧i=.int .i64 k∧k≤s.l.length∧Hid ((s.l.take k).all goodT8=true)) (fun _ i=>s.l.length-(intOf i).toNat)
 case atStart=>exact⟨0,rfl,rfl,by omega,by show _=_;simp⟩
 case round =>
  obtain⟨k,rfl,rfl,hk,hin⟩:=hrel
  by_cases hlt:k<s.l.length
  ·obtain⟨ad,c,ha,hc,hcell,hc0,hc1⟩:=HR.out.byte (k:=k) hlt
   have hst:s.l.take (k+1)=s.l.take k++[c]:=by rw[List.take_add_one,hc.out];rfl
   have HST:=hide hst
   rw[ha]
   clear hst ha
   by_cases h6:c.toNat=126
   ·have g1:((c.toNat:Int) != 126)=false:=by simp;omega
    have hnx:Hid ((s.l.take (k+1)).all goodT8=true):=by
     show _=_
     rw[HST.out,List.all_append,hin.out]
     have:c=126:=by rw[←UInt8.toNat_inj];exact h6
     simp[goodT8,this]
    clear h6
    go_wp2_with fail
    go_round
    case rel=>exact⟨k+1,rfl,by go_num,by omega,hnx⟩
    case measure=>simp[intOf]<;>omega
   ·have g1:((c.toNat:Int) != 126)=true:=by simp;omega
    by_cases h7:c.toNat=127
    ·have g2:((c.toNat:Int) != 127)=false:=by simp;omega
     have hnx:Hid ((s.l.take (k+1)).all goodT8=true):=by
      show _=_
      rw[HST.out,List.all_append,hin.out]
      have:c=127:=by rw[←UInt8.toNat_inj];exact h7
      simp[goodT8,this]
     clear h6 h7
     go_wp2_with fail
     go_round
     case rel=>exact⟨k+1,rfl,by go_num,by omega,hnx⟩
     case measure=>simp[intOf]<;>omega
    ·have g2:((c.toNat:Int) != 127)=true:=by simp;omega
     have hno:Hid (typedB s.l=false):=by
      show _=_
      have:s.l.all goodT8=false:=by
       rw[List.all_eq_false]
       refine⟨c,List.mem_of_getElem? hc.out,?_⟩
       have e6:¬c=126:=fun e=>h6 (by rw[e];rfl)
       have e7:¬c=127:=fun e=>h7 (by rw[e];rfl)
       simp[goodT8,e6,e7]
      unfold typedB
      rw[this,Bool.and_false]
     clear h6 h7
     go_wp2_with fail
     go_ret
     exact⟨by rw[hno.out];rfl,rfl⟩
  ·have hall:=hin.out
   rw[List.take_of_length_le (by omega)]at hall
   have hN:Hid (typedB s.l=decide ((s.l.length:Int)≤20)):=by
    show _=_
    unfold typedB
    rw[hall,Bool.and_true]
    exact decide_eq_decide.2 (by omega)
   have hlt3:(s.l.length:Int)≤(k:Int):=by omega
   clear hlt hall
   go_wp2_with fail
   go_ret
   exact⟨by rw[hN.out];rfl,rfl⟩
theorem lin_any (n:Int) (many:Nat) (w:World) :
  Calls Tryz.prog 32 #[.int .i64 n,.int .i64 (many:Int)] w fun e w'=>e=.returned (.bool (inB n many))∧w=w':=by
 by_cases h0:0≤n
 ·have g1:decide ((0:Int)≤n)=true:=decide_eq_true h0
  have hN:Hid (inB n many=decide (n<(many:Int))):=by show _=_;unfold inB;rw[g1,Bool.true_and]
  go_enter Tryz.func32,Tryz.ntmps32
  go_wp2_with fail
  go_ret
  exact⟨by rw[hN.out];rfl,rfl⟩
 ·have g1:decide ((0:Int)≤n)=false:=decide_eq_false h0
  have hN:Hid (inB n many=false):=by show _=_;unfold inB;rw[g1,Bool.false_and]
  have h1:n<0:=by omega
  clear h0
  go_enter Tryz.func32,Tryz.ntmps32
  go_wp2_with fail
  go_ret
  exact⟨by rw[hN.out];rfl,rfl⟩
set_option maxRecDepth 100000 in
set_option maxHeartbeats 1600000 in
theorem lsig_any (m:MoL) (f:Nat) (s:SgL) (w:World) (h:Hid (MoIn w m)) (hl:m.imps.l.length+m.funcs.l.length≤100000) (hz:m.sigs.l.length≤100000) (hs:sigL m (f:Int)=some s) :
  Calls Tryz.prog 33 #[.agg m.cs.toArray,.int .i64 (f:Int)] w fun e w'=>e=.returned (.agg #[.slice s.p.at_ s.p.l.length s.p.cap,.slice s.r.at_ s.r.l.length s.r.cap])∧Hid (Below w.heap.size w w'):=by
 obtain⟨W1,hW1,hb1,hx1,hs1⟩:=box_new w m.cs.toArray 31
 obtain⟨W,hW,hb2,hx2,hs2⟩:=box_new W1 #[.slice none 0 0,.slice none 0 0] 72
 obtain⟨xg,hxg⟩:∃xg,w.heap.size=xg:=⟨_,rfl⟩
 rw[hxg]at hx1 hs1
 rw[hs1]at hx2 hs2
 have hb:Below w.heap.size w W:=hb1.trans (hb2.mono hb1.size)
 have hx1W:=(hb2.block xg (by omega)).trans hx1
 have c0:W.cell? ⟨xg,0,none⟩=some (.slice m.sigs.at_ m.sigs.l.length m.sigs.cap):=cell_blk hx1W 0
 have c1:W.cell? ⟨xg,1,none⟩=some (.slice m.imps.at_ m.imps.l.length m.imps.cap):=cell_blk hx1W 1
 have c2:W.cell? ⟨xg,2,none⟩=some (.slice m.funcs.at_ m.funcs.l.length m.funcs.cap):=cell_blk hx1W 2
 have r0:W.cell? ⟨xg+1,0,none⟩=some (.slice none 0 0):=cell_blk hx2 0
 have r1:W.cell? ⟨xg+1,1,none⟩=some (.slice none 0 0):=cell_blk hx2 1
 have z0:=frozen_blk hx2 0
 have z1:=frozen_blk hx2 1
 obtain⟨WE,hWE,hOE,hBE⟩:=set_two_only hx2 (.slice s.p.at_ s.p.l.length s.p.cap) (.slice s.r.at_ s.r.l.length s.r.cap)
 have hM:=h.out.below hb
 have hfin:Below w.heap.size w WE:=hb.trans (hOE.below (by omega) (by simp;omega))
 unfold sigL mnumL at hs
 have HW1:=hide hW1;have HW:=hide hW;have HXG:=hide hxg;have HS1:=hide hs1;have HWE:=hide hWE;have HBE:=hide hBE;have HFIN:=hide hfin
 have t0:WE.cell? ⟨xg+1,0,none⟩=some (.slice s.p.at_ s.p.l.length s.p.cap):=cell_blk hBE 0
 have t1:WE.cell? ⟨xg+1,1,none⟩=some (.slice s.r.at_ s.r.l.length s.r.cap):=cell_blk hBE 1
 split at hs
 ·rename_i hff
  have hff2:f<m.imps.l.length+m.funcs.l.length:=by omega
  simp only[Option.bind_some,Int.toNat_natCast]at hs
  split at hs
  ·rename_i hin
   obtain⟨n1,n2⟩:=inB_iff.1 hin
   obtain⟨n,hn⟩:∃n:Nat,sigN m.g f=(n:Int):=⟨(sigN m.g f).toNat,by omega⟩
   rw[hn]at hs n2
   simp only[Int.toNat_natCast]at hs
   have n3:(n:Int)<(m.sigs.l.length:Int):=n2
   have n4:n≤100000:=by omega
   obtain⟨ads,has,_,k0,kj⟩:=hM.sigs.at_ (fun _=>rfl) hs
   have q0:W.cell? (ads.add (n*2))=some (.slice s.p.at_ s.p.l.length s.p.cap):=k0 _ rfl (by omega)
   have q1:W.cell? ⟨(ads.add (n*2)).block,(ads.add (n*2)).off+1,none⟩=some (.slice s.r.at_ s.r.l.length s.r.cap):=kj 1 (by omega) (by omega) _ rfl
   rw[has]at c0
   unfold sigN at hn
   unfold MoL.cs Sl.val at HW1 ⊢
   rw[show m.g.imps=m.imps.l from rfl]at hn
   have HAS:=hide has
   clear hW1 hW hb1 hb2 hb hx1 hx2 hs1 hs2 hx1W hWE hOE hBE hfin k0 kj hs hin n1 n2 has hff
   by_cases hlt:f<m.imps.l.length
   ·rw[if_pos hlt]at hn
    obtain⟨y,hy⟩:∃y,m.imps.l[f]?=some y:=⟨_,List.getElem?_eq_getElem hlt⟩
    rw[getD_some hy]at hn
    obtain⟨adi,hai,_,_,kj⟩:=hM.imps.at_ (fun _=>rfl) hy
    have u2:W.cell? ⟨(adi.add (f*3)).block,(adi.add (f*3)).off+2,none⟩=some (.int .i64 y.sig):=kj 2 (by omega) (by omega) _ rfl
    rw[hn]at u2
    rw[hai]at c1
    have hlt3:(f:Int)<(m.imps.l.length:Int):=by omega
    clear hlt hy hai kj hn hM
    go_enter Tryz.func33,Tryz.ntmps33
    go_upto_region 1 with fail
    rw[HW1.out]
    try rw[HXG.out]
    rw[HW.out]
    go_upto_region 2 with fail
    go_region
    go_wp2_with fail
    rw[HWE.out]
    clear c0 c1 c2 r0 r1 z0 z1 q0 q1 u2
    refine bodyPost_ret (v:=.agg #[.slice s.p.at_ s.p.l.length s.p.cap,.slice s.r.at_ s.r.l.length s.r.cap]) (by simp[results,Tryz.results33,go_sem,t0,t1]) rfl ?_
    exact⟨rfl,below_dr HFIN.out 1⟩
   ·rw[if_neg hlt]at hn
    obtain⟨fj,hfj⟩:∃fj,f-m.imps.l.length=fj:=⟨_,rfl⟩
    have hle:m.imps.l.length≤f:=by omega
    have s1:(f:Int)-(m.imps.l.length:Int)=(fj:Int):=by omega
    have s2:fj<m.funcs.l.length:=by omega
    obtain⟨y,hy⟩:∃y,m.funcs.l[fj]?=some y:=⟨_,List.getElem?_eq_getElem s2⟩
    rw[hfj,show m.g.funcs.getD fj noFu=y.g from getD_some (by simp[MoL.g,hy])]at hn
    have hn2:y.sig=(n:Int):=hn
    obtain⟨adi,hai,_,k0,_⟩:=hM.funcs.at_ (fun _=>rfl) hy
    have u2:W.cell? (adi.add (fj*3))=some (.int .i64 y.sig):=k0 _ rfl (by omega)
    rw[hn2]at u2
    rw[hai]at c2
    have hlt3:(m.imps.l.length:Int)≤(f:Int):=by omega
    have hlt4:(fj:Int)<(m.funcs.l.length:Int):=by omega
    have hf5:f≤100000:=by omega
    have hi5:m.imps.l.length≤100000:=by omega
    clear hlt hy hai k0 hn hn2 hM hfj hle
    go_enter Tryz.func33,Tryz.ntmps33
    go_upto_region 1 with fail
    rw[HW1.out]
    try rw[HXG.out]
    rw[HW.out]
    go_upto_region 3 with fail
    go_region
    go_wp2_with fail
    rw[HWE.out]
    clear c0 c1 c2 r0 r1 z0 z1 q0 q1 u2
    refine bodyPost_ret (v:=.agg #[.slice s.p.at_ s.p.l.length s.p.cap,.slice s.r.at_ s.r.l.length s.r.cap]) (by simp[results,Tryz.results33,go_sem,t0,t1]) rfl ?_
    exact⟨rfl,below_dr HFIN.out 1⟩
  ·cases hs
 ·cases hs
end Go.Proofs.YtmekgpdfiimofaaGreatDoor
