import Derived.Test.YtomppgohoplemaaGreatNAO
import Derived.Outline
import Derived.Deep.QuietTactic
set_option linter.unusedVariables false
namespace Go.Proofs.YtomppgohoplemaaGreat
open Go.RowKit
def inI (n k:Int):Bool:=decide (0≤n)&&decide (n<k)
theorem inI_nat (n:Int) (k:Nat):inI n (k:Int)=inB n k:=rfl
theorem mhas_any (n k:Int) (w:World):Calls Tryz.prog 34 #[.int .i64 n,.int .i64 k] w fun e w'=>e=.returned (.bool (inI n k))∧w=w':=by
 unfold inI
 by_cases h1:0≤n
 ·by_cases h2:n<k
  ·rw[decide_eq_true h1,decide_eq_true h2]
   go_enter Tryz.func34,Tryz.ntmps34
   go_wp2_with fail
   go_ret
   exact⟨rfl,rfl⟩
  ·rw[decide_eq_true h1,decide_eq_false h2]
   go_enter Tryz.func34,Tryz.ntmps34
   go_wp2_with fail
   go_ret
   exact⟨rfl,rfl⟩
 ·rw[decide_eq_false h1]
  have h1':n<0:=by omega
  go_enter Tryz.func34,Tryz.ntmps34
  go_wp2_with fail
  go_ret
  exact⟨rfl,rfl⟩
theorem mwhen_any (b:Bool) (n:Int) (w:World):Calls Tryz.prog 77 #[.bool b,.int .i64 n] w fun e w'=>e=.returned (.int .i64 (if b then n else 0))∧w=w':=by
 cases b <;>
 ·go_enter Tryz.func77,Tryz.ntmps77
  go_wp2_with fail
  go_ret
  exact⟨rfl,rfl⟩
theorem nmB_eq (s:List UInt8):nmB s=(s.all nmC&&(decide (0<s.length)&&decide (s.length≤30))):=rfl
set_option maxHeartbeats 800000 in
theorem named13_any (s:List UInt8) (w:World) (hl:s.length≤9223372036854775807) :
  Calls Tryz.prog 80 #[.string ⟨s.toArray⟩] w fun e w'=>e=.returned (.bool (nmB s))∧w=w':=by
 have hsz:(⟨s.toArray⟩:ByteArray).size=s.length:=rfl
 go_enter Tryz.func80,Tryz.ntmps80
 go_wp2_with fail
 go_loop [2,3,6] (fun r _ i=>∃k:Nat,r=.bool false∧i=.int .i64 k∧k≤s.length∧Hid ((s.take k).all nmC=true)) (fun _ _ i=>s.length-(intOf i).toNat)
 case atStart=>exact⟨0,rfl,rfl,by omega,by show _=_;simp⟩
 case round =>
  obtain⟨k,rfl,rfl,hk,hin⟩:=hrel
  by_cases hlt:k<s.length
  ·obtain⟨c,hc⟩:∃c,s[k]?=some c:=⟨_,List.getElem?_eq_getElem hlt⟩
   have hat:=str_at s k .i64 hc w
   have hst:s.take (k+1)=s.take k++[c]:=by rw[List.take_add_one,hc];rfl
   have HST:=hide hst;have HC:=hide hc
   have hc255:=c.toNat_lt
   clear hst hc
   by_cases h1:c.toNat<33
   ·have hno:Hid (nmB s=false):=by
     show _=_
     have:s.all nmC=false:=by
      rw[List.all_eq_false]
      exact⟨c,List.mem_of_getElem? HC.out,by unfold nmC;simp;omega⟩
     rw[nmB_eq,this];rfl
    have g1:decide ((c.toNat:Int)<33)=true:=by simp;omega
    clear h1
    go_wp2_with fail
    go_ret
    exact⟨by rw[hno.out];rfl,rfl⟩
   ·have g1:decide ((c.toNat:Int)<33)=false:=by simp;omega
    by_cases h2:126<c.toNat
    ·have hno:Hid (nmB s=false):=by
      show _=_
      have:s.all nmC=false:=by
       rw[List.all_eq_false]
       exact⟨c,List.mem_of_getElem? HC.out,by unfold nmC;simp;omega⟩
      rw[nmB_eq,this];rfl
     have g2:decide ((126:Int)<(c.toNat:Int))=true:=by simp;omega
     clear h1 h2
     go_wp2_with fail
     go_ret
     exact⟨by rw[hno.out];rfl,rfl⟩
    ·have g2:decide ((126:Int)<(c.toNat:Int))=false:=by simp;omega
     have hnx:Hid ((s.take (k+1)).all nmC=true):=by
      show _=_
      rw[HST.out,List.all_append,hin.out]
      simp[nmC]
      omega
     clear h1 h2
     go_wp2_with fail
     go_round
     case rel=>exact⟨k+1,rfl,by go_num,by omega,hnx⟩
     case measure=>simp[intOf]<;>omega
  ·have hk2:k=s.length:=by omega
   have hall:=hin.out
   rw[List.take_of_length_le (by omega)]at hall
   clear hlt
   cases s with
   | nil =>
    go_wp2_with fail
    go_ret
    exact⟨rfl,rfl⟩
   | cons b r =>
    have hN:Hid (nmB (b::r)=decide ((b::r).length≤30)):=by show _=_;rw[nmB_eq,hall];simp
    have f1:(⟨(b::r).toArray⟩:ByteArray).toList.isEmpty=false:=by rw[ByteArray.toList_eq];rfl
    clear hall
    go_wp2_with fail
    go_ret
    have hdd:decide ((r.length:Int)+1≤30)=decide ((b::r).length≤30):=decide_eq_decide.2 (by simp only[List.length_cons];omega)
    exact⟨by rw[hN.out,←hdd];rfl,rfl⟩
theorem mcount_any (g:Nat) (m:MoL) (w:World) (h:Hid (MoAt w g m)) (hm:m.imps.l.length≤1000000) (hf:m.funcs.l.length≤1000000):Calls Tryz.prog 46 #[.pointer (some ⟨g,0,none⟩)] w fun e w'=>e=.returned (.int .i64 ((m.imps.l.length+m.funcs.l.length:Nat):Int))∧Hid (Below w.heap.size w w'):=by
 obtain⟨_,c1,c2,_,_,_,_,_,_,_⟩:=h.out.cells
 go_enter Tryz.func46,Tryz.ntmps46
 go_wp2_with fail
 go_quiet (fail)
 go_wp2_with fail
 go_ret
 exact⟨rfl,below_dr (Below.refl _ _) _⟩
set_option maxRecDepth 100000 in
set_option maxHeartbeats 1600000 in
theorem mfirst_any (n:Nat) (F:FuncId) (cp:Array Value) (f:Nat→Nat) (w:World) (hn:n≤1000000) (hf:∀i,f i≤1000) (hcf:∀(x:Value) (W:World),Sem.run Tryz.prog (callFunc F (#[x]++cp)) W=.ok (.enter F (#[x]++cp)) W)
  (hF:Hid (∀i:Nat,i<n→∀W,Below w.heap.size w W→Calls Tryz.prog F (#[.int .i64 (i:Int)]++cp) W fun e w'=>e=.returned (.int .i64 (f i:Int))∧Hid (Below W.heap.size W w'))) :
  Calls Tryz.prog 81 #[.int .i64 (n:Int),.func (.func F) #[] cp] w fun e w'=>e=.returned (.int .i64 (firstI f n:Int))∧Hid (Below w.heap.size w w'):=by
 go_enter Tryz.func81,Tryz.ntmps81
 go_wp2_with fail
 go_loopw [4,5,6,8] (fun r v u i w1=>∃k:Nat,r=.int .i64 0∧i=.int .i64 k∧k≤n∧Hid (Below w.heap.size w w1)∧Hid (∀j,j<k→f j=0)) (fun _ _ _ i _=>n-(intOf i).toNat)
 case atStart=>exact⟨0,rfl,rfl,by omega,Below.refl _ _,by intro j hj;omega⟩
 case round =>
  obtain⟨k,rfl,rfl,hk,hbw,hz⟩:=hrel
  by_cases hlt:k<n
  ·have HC:=hide (hF.out k hlt wr hbw.out)
   by_cases h0:f k=0
   ·rw[h0]at HC
    have hz2:Hid (∀j,j<k+1→f j=0):=by
     intro j hj
     rcases Nat.lt_or_ge j k with h|h
     ·exact hz.out j h
     ·obtain rfl:j=k:=by omega
      exact h0
    clear h0 hz
    go_wp2_with fail
    refine HC.out.mono ?_;rintro e w2 ⟨rfl,h2⟩
    have HB2:Hid (Below w.heap.size w w2):=hbw.out.trans (h2.out.mono hbw.out.size)
    clear h2 HC
    go_wp2_with fail
    go_roundw
    case rel=>exact⟨k+1,rfl,by go_num,by omega,HB2,hz2⟩
    case measure=>simp[intOf]<;>omega
   ·have hfk:Hid (firstI f n=f k):=firstI_at hlt hz.out h0
    have hb:=hf k
    obtain⟨q,hq⟩:∃q,f k=q:=⟨_,rfl⟩
    rw[hq]at HC hfk hb h0
    have h1:((q:Nat):Int)≠0:=by omega
    have h2:((q:Int) != 0)=true:=by simpa using h1
    clear h0 h1 hq
    go_wp2_with fail
    refine HC.out.mono ?_;rintro e w2 ⟨rfl,h2⟩
    go_wp2_with fail
    go_ret
    exact⟨by rw[hfk.out];rfl,hbw.out.trans (h2.out.mono hbw.out.size)⟩
  ·have hfk:Hid (firstI f n=0):=firstI_zero (fun i hi=>hz.out i (by omega))
   clear hz
   go_wp2_with fail
   go_ret
   exact⟨by rw[hfk.out];rfl,hbw⟩
set_option maxRecDepth 100000 in
theorem mmany_any (n most:Nat) (F:FuncId) (cp:Array Value) (f:Nat→Nat) (w:World) (hn:n≤1000000) (hm:most≤1000000) (hf:∀i,f i≤1000) (hcf:∀(x:Value) (W:World),Sem.run Tryz.prog (callFunc F (#[x]++cp)) W=.ok (.enter F (#[x]++cp)) W)
  (hF:Hid (n≤most→∀i:Nat,i<n→∀W,Below w.heap.size w W→Calls Tryz.prog F (#[.int .i64 (i:Int)]++cp) W fun e w'=>e=.returned (.int .i64 (f i:Int))∧Hid (Below W.heap.size W w'))) :
  Calls Tryz.prog 75 #[.int .i64 (n:Int),.int .i64 (most:Int),.func (.func F) #[] cp] w fun e w'=>e=.returned (.int .i64 (manyI n most f:Int))∧Hid (Below w.heap.size w w'):=by
 unfold manyI
 by_cases h:most<n
 ·rw[if_pos h]
  go_enter Tryz.func75,Tryz.ntmps75
  go_wp2_with fail
  go_ret
  exact⟨rfl,Below.refl _ _⟩
 ·rw[if_neg h]
  have HC:=hide (mfirst_any n F cp f w hn hf hcf (hide (hF.out (by omega))))
  go_enter Tryz.func75,Tryz.ntmps75
  go_wp2_with fail
  refine HC.out.mono ?_;rintro e w2 ⟨rfl,h2⟩
  go_wp2_with fail
  go_ret
  exact⟨rfl,h2⟩
def mnumL (m:MoL) (f:Int):Option Int:=if 0≤f∧f<((m.imps.l.length+m.funcs.l.length:Nat):Int)then some (sigN m.g f.toNat)else none
def mnumV:Option Int→Value
 | some n=>.tuple #[.int .i64 n,.bool true]
 | none=>.tuple #[.int .i64 0,.bool false]
set_option maxRecDepth 100000 in
set_option maxHeartbeats 1600000 in
theorem mnumber_any (g:Nat) (m:MoL) (f:Int) (w:World) (h:Hid (MoAt w g m)) (hm:m.imps.l.length≤1000000) (hf:m.funcs.l.length≤1000000) (hf1:-9223372036854775808≤f) (hf2:f≤9223372036854775807) :
  Calls Tryz.prog 33 #[.pointer (some ⟨g,0,none⟩),.int .i64 f] w fun e w'=>e=.returned (mnumV (mnumL m f))∧Hid (Below w.heap.size w w'):=by
 obtain⟨_,c1,c2,_,_,_,_,_,_,_⟩:=h.out.cells
 have HC:=hide (mcount_any g m w h hm hf)
 by_cases h0:f<0
 ·have hn:Hid (mnumL m f=none):=by show _=_;unfold mnumL;rw[if_neg (by omega)]
  go_enter Tryz.func33,Tryz.ntmps33
  go_wp2_with fail
  go_ret2
  exact⟨by rw[hn.out];rfl,Below.refl _ _⟩
 obtain⟨j,rfl⟩:∃j:Nat,f=(j:Int):=⟨f.toNat,by omega⟩
 by_cases h1:j<m.imps.l.length
 ·obtain⟨x,hx⟩:∃x,m.imps.l[j]?=some x:=⟨_,List.getElem?_eq_getElem h1⟩
  have hn:Hid (mnumL m (j:Int)=some x.sig):=by
   show _=_
   unfold mnumL
   rw[if_pos (by omega),Int.toNat_natCast]
   unfold sigN
   show some (if j<m.imps.l.length then (m.imps.l.getD j noIm).sig else _)=_
   rw[if_pos h1,getD_some hx]
  have hlt:(j:Int)<((m.imps.l.length+m.funcs.l.length:Nat):Int):=by omega
  have HX:=hide hx
  clear hx
  generalize m.imps.l.length+m.funcs.l.length=q at *
  go_enter Tryz.func33,Tryz.ntmps33
  go_wp2_with fail
  refine HC.out.mono ?_;rintro e w2 ⟨rfl,h2⟩
  obtain⟨ad,ha,_,_,hc⟩:=(h.out.below h2.out).in_.imps.at_ (fun _=>rfl) HX.out
  obtain⟨_,d1,_,_,_,_,_,_,_,_⟩:=(h.out.below h2.out).cells
  have k2:=hc 2 (by omega) (by omega) _ rfl
  rw[ha]at d1
  clear hc
  go_wp2_with fail
  go_ret2
  exact⟨by rw[hn.out];rfl,h2⟩
 by_cases h2:j<m.imps.l.length+m.funcs.l.length
 ·obtain⟨k,hk⟩:∃k,j=m.imps.l.length+k:=⟨j-m.imps.l.length,by omega⟩
  have hkl:k<m.funcs.l.length:=by omega
  obtain⟨x,hx⟩:∃x,m.funcs.l[k]?=some x:=⟨_,List.getElem?_eq_getElem hkl⟩
  have hn:Hid (mnumL m (j:Int)=some x.sig):=by
   show _=_
   unfold mnumL
   rw[if_pos (by omega),Int.toNat_natCast]
   unfold sigN
   show some (if j<m.imps.l.length then _ else ((m.funcs.l.map FuL.g).getD (j-m.imps.l.length) noFu).sig)=_
   rw[if_neg h1,show j-m.imps.l.length=k from by omega,getD_some (x:=x.g) (by rw[List.getElem?_map,hx];rfl)]
   rfl
  have e1:(j:Int)-(m.imps.l.length:Int)=(k:Int):=by omega
  have hlt:(j:Int)<((m.imps.l.length+m.funcs.l.length:Nat):Int):=by omega
  have h1':(m.imps.l.length:Int)≤(j:Int):=by omega
  have HX:=hide hx
  generalize m.imps.l.length+m.funcs.l.length=q at *
  clear hk hx h1 h2
  go_enter Tryz.func33,Tryz.ntmps33
  go_wp2_with fail
  refine HC.out.mono ?_;rintro e w2 ⟨rfl,h2⟩
  obtain⟨ad,ha,_,k0,_⟩:=(h.out.below h2.out).in_.funcs.at_ (fun _=>rfl) HX.out
  obtain⟨_,d1,d2,_,_,_,_,_,_,_⟩:=(h.out.below h2.out).cells
  have k2:=k0 _ rfl (by omega)
  rw[ha]at d2
  clear k0
  go_wp2_with fail
  go_ret2
  exact⟨by rw[hn.out];rfl,h2⟩
 ·have hn:Hid (mnumL m (j:Int)=none):=by show _=_;unfold mnumL;rw[if_neg (by omega)]
  have hlt:((m.imps.l.length+m.funcs.l.length:Nat):Int)≤(j:Int):=by omega
  generalize m.imps.l.length+m.funcs.l.length=q at *
  clear h1 h2
  go_enter Tryz.func33,Tryz.ntmps33
  go_wp2_with fail
  refine HC.out.mono ?_;rintro e w2 ⟨rfl,h2⟩
  go_wp2_with fail
  go_ret2
  exact⟨by rw[hn.out];rfl,h2⟩
def sigL (m:MoL) (f:Int):Option SgL:=(mnumL m f).bind fun n=>if inB n m.sigs.l.length then m.sigs.l[n.toNat]? else none
def sigV:Option SgL→Value
 | some s=>.tuple #[.agg #[s.p.val,s.r.val],.bool true]
 | none=>.tuple #[.agg #[.slice none 0 0,.slice none 0 0],.bool false]
set_option maxRecDepth 100000 in
set_option maxHeartbeats 1600000 in
theorem msig_any (g:Nat) (m:MoL) (f:Int) (w:World) (h:Hid (MoAt w g m)) (hm:m.imps.l.length≤1000000) (hf:m.funcs.l.length≤1000000) (hs:m.sigs.l.length≤1000000) (hf1:-9223372036854775808≤f) (hf2:f≤9223372036854775807) :
  Calls Tryz.prog 21 #[.pointer (some ⟨g,0,none⟩),.int .i64 f] w fun e w'=>e=.returned (sigV (sigL m f))∧Hid (Below w.heap.size w w'):=by
 obtain⟨W,hW,hb,hx,hsz⟩:=box_new w #[.slice none 0 0,.slice none 0 0] 87
 have hM:=hide (h.out.below hb)
 have HC:=hide (mnumber_any g m f W hM hm hf hf1 hf2)
 have HB:=hide hb;have HW:=hide hW;have HX:=hide hx
 clear hb hW hx hsz
 cases hq:mnumL m f with
 | none =>
  have hn:Hid (sigL m f=none):=by show _=_;unfold sigL;rw[hq];rfl
  rw[hq]at HC
  unfold mnumV at HC
  clear hq
  go_enter Tryz.func21,Tryz.ntmps21
  go_upto_region 1 with fail
  rw[HW.out]
  go_wp2_with fail
  refine HC.out.mono ?_;rintro e w2 ⟨rfl,h2⟩
  have hx2:=(h2.out.block w.heap.size (blk_lt HX.out)).trans HX.out
  have e0:=cell_blk hx2 0
  have e1:=cell_blk hx2 1
  simp at e0 e1
  have z0:=frozen_blk hx2 0
  have z1:=frozen_blk hx2 1
  obtain⟨f0,f1,hbb⟩:=set_two hx2 (.slice none 0 0) (.slice none 0 0) (Nat.le_refl w.heap.size)
  have h9:=hide (HB.out.trans (h2.out.mono HB.out.size))
  have HBB:=hide hbb
  clear hx2 hbb h2 HC
  go_wp2_with fail
  refine bodyPost_ret (v:=.tuple #[.agg #[(.slice none 0 0),(.slice none 0 0)],.bool false]) (by simp[results,Tryz.results21,go_sem,f0,f1]) rfl ?_
  exact⟨by rw[hn.out];rfl,h9.out.trans HBB.out⟩
 | some n =>
  rw[hq]at HC
  unfold mnumV at HC
  have HH:=hide (fun W=>mhas_any n (m.sigs.l.length:Int) W)
  rw[inI_nat]at HH
  cases hi:inB n m.sigs.l.length with
  | false =>
   have hn:Hid (sigL m f=none):=by show _=_;unfold sigL;rw[hq];show (if inB n m.sigs.l.length then _ else none)=none;rw[hi];rfl
   rw[hi]at HH
   clear hq hi
   go_enter Tryz.func21,Tryz.ntmps21
   go_upto_region 1 with fail
   rw[HW.out]
   go_wp2_with fail
   refine HC.out.mono ?_;rintro e w2 ⟨rfl,h2⟩
   obtain⟨c0,_,_,_,_,_,_,_,_,_⟩:=(hM.out.below h2.out).cells
   have hx2:=(h2.out.block w.heap.size (blk_lt HX.out)).trans HX.out
   have e0:=cell_blk hx2 0
   have e1:=cell_blk hx2 1
   simp at e0 e1
   have z0:=frozen_blk hx2 0
   have z1:=frozen_blk hx2 1
   obtain⟨f0,f1,hbb⟩:=set_two hx2 (.slice none 0 0) (.slice none 0 0) (Nat.le_refl w.heap.size)
   have h9:=hide (HB.out.trans (h2.out.mono HB.out.size))
   have HBB:=hide hbb
   clear hx2 hbb h2 HC
   go_wp2_with fail
   refine(HH.out _).mono ?_;rintro e w3 ⟨rfl,rfl⟩
   go_wp2_with fail
   refine bodyPost_ret (v:=.tuple #[.agg #[(.slice none 0 0),(.slice none 0 0)],.bool false]) (by simp[results,Tryz.results21,go_sem,f0,f1]) rfl ?_
   exact⟨by rw[hn.out];rfl,h9.out.trans HBB.out⟩
  | true =>
   obtain⟨i1,i2⟩:=inB_iff.1 hi
   obtain⟨k,rfl⟩:∃k:Nat,n=(k:Int):=⟨n.toNat,by omega⟩
   have hk:k<m.sigs.l.length:=by omega
   obtain⟨x,hx⟩:∃x,m.sigs.l[k]?=some x:=⟨_,List.getElem?_eq_getElem hk⟩
   have hn:Hid (sigL m f=some x):=by show _=_;unfold sigL;rw[hq];show (if inB (k:Int) m.sigs.l.length then m.sigs.l[(k:Int).toNat]? else none)=_;rw[hi,if_pos rfl,Int.toNat_natCast,hx]
   rw[hi]at HH
   have HHX:=hide hx
   clear hq hi hx i1 i2
   go_enter Tryz.func21,Tryz.ntmps21
   go_upto_region 1 with fail
   rw[HW.out]
   go_wp2_with fail
   refine HC.out.mono ?_;rintro e w2 ⟨rfl,h2⟩
   obtain⟨c0,_,_,_,_,_,_,_,_,_⟩:=(hM.out.below h2.out).cells
   obtain⟨ad,ha,_,k0,kj⟩:=(hM.out.below h2.out).in_.sigs.at_ (fun _=>rfl) HHX.out
   have k1:=k0 _ rfl (by omega)
   have k2:=kj 1 (by omega) (by omega) _ rfl
   simp only[Sl.val]at k1 k2
   rw[ha]at c0
   have hx2:=(h2.out.block w.heap.size (blk_lt HX.out)).trans HX.out
   have e0:=cell_blk hx2 0
   have e1:=cell_blk hx2 1
   simp at e0 e1
   have z0:=frozen_blk hx2 0
   have z1:=frozen_blk hx2 1
   obtain⟨f0,f1,hbb⟩:=set_two hx2 (.slice x.p.at_ x.p.l.length x.p.cap) (.slice x.r.at_ x.r.l.length x.r.cap) (Nat.le_refl w.heap.size)
   have h9:=hide (HB.out.trans (h2.out.mono HB.out.size))
   have HBB:=hide hbb
   clear hx2 hbb h2 HC k0 kj
   go_wp2_with fail
   refine(HH.out _).mono ?_;rintro e w3 ⟨rfl,rfl⟩
   go_wp2_with fail
   refine bodyPost_ret (v:=.tuple #[.agg #[.slice x.p.at_ x.p.l.length x.p.cap,.slice x.r.at_ x.r.l.length x.r.cap],.bool true]) (by simp[results,Tryz.results21,go_sem,f0,f1]) rfl ?_
   exact⟨by rw[hn.out];rfl,h9.out.trans HBB.out⟩
end Go.Proofs.YtomppgohoplemaaGreat
