import Derived.Test.YtpcanheghenhdaaGreatNAS
import Derived.Test.YtpcanheghenhdaaGreatNAI
import Derived.Test.YtpcanheghenhdaaGreatNAD
set_option linter.unusedVariables false
namespace Go.Proofs.YtpcanheghenhdaaGreat
open Go.RowKit
theorem putSN_small (n:Int) (h:-64≤n∧n≤63):putSN n=[UInt8.ofNat (n%128).toNat]:=by
 have hm:magN n<2^6:=by unfold magN;simp only[Nat.reducePow];split<;>omega
 have hb:=Lib.bitLen_le (magN n) 6 (by omega) hm
 have hs:sizeS n=1:=by unfold sizeS;omega
 unfold putSN
 rw[hs]
 rfl
theorem putSN_step (n:Int) (a1:-9223372036854775808≤n) (a2:n≤9223372036854775807) (h:n < -64∨63<n):putSN n=UInt8.ofNat ((n%128).toNat+128)::putSN (n/128)∧sizeS n=sizeS (n/128)+1:=by
 have hmag:=magN_lt n a1 a2
 have hdiv:magN (n/128)=magN n/128:=by unfold magN;split<;>split<;>omega
 have hge:64≤magN n:=by unfold magN;split<;>omega
 have hs:sizeS n=sizeS (n/128)+1:=by
  unfold sizeS
  rw[hdiv]
  by_cases h7:128≤magN n
  ·have:=Lib.bitLen_shift 7 (magN n) (by omega) (by simp only[Nat.reducePow]at hmag ⊢;omega)
   simp only[Nat.reducePow]at this
   omega
  ·have h1:¬Lib.bitLen (magN n)≤6:=fun hh=>by
    have:=(bitLen_iff 63 (magN n) 6 hmag (by omega)).1 hh
    omega
   have h2:=Lib.bitLen_le (magN n) 7 (by omega) (by simp only[Nat.reducePow];omega)
   rw[show magN n/128=0 from by omega]
   have:Lib.bitLen 0=0:=by decide
   omega
 have hp:=sizeS_bd (n/128) (by omega) (by omega)
 refine⟨?_,hs⟩
 unfold putSN
 rw[hs]
 obtain⟨k,hk⟩:∃k,sizeS (n/128)=k+1:=⟨_,(Nat.succ_pred_eq_of_pos hp.1).symm⟩
 rw[hk]
 rfl
def MadeR (w:World) (bs:List UInt8) (e:Ending) (w':World):Prop:=∃A c,e=.returned (.slice A bs.length c)∧Hid (Reads w' w'.heap.size 1 A bs.length (bs.map B))∧Hid (Below w.heap.size w w')∧Hid (bs.length≤c)∧Hid (OwnB w' w.heap.size (.slice A bs.length c) bs)
theorem MadeR.of {w w':World} {base:Nat} {v:Value} {bs bs':List UInt8} (hq:Hid (w.heap.size=base)) (h:OwnB w' base v bs') (he:bs'=bs) (hb:Below w.heap.size w w'):MadeR w bs (.returned v) w':=by
 subst he
 obtain⟨A,c,rfl,h1,_⟩:=own_form h
 exact⟨A,c,rfl,Reads.of_own h,hb,h1,by show OwnB _ _ _ _;rw[hq.out];exact h⟩
set_option maxHeartbeats 400000 in
set_option maxRecDepth 100000 in
theorem refPut_any (n:Nat) (w:World) (hn:Hid (n<2^64)) :
  Calls Tryz.prog 41 #[.int .u64 n] w (MadeR w (putN n)):=by
 obtain⟨base,hbase⟩:∃b,w.heap.size=b:=⟨_,rfl⟩
 have HB:=hide hbase;clear hbase
 go_enter Tryz.func41,Tryz.ntmps41
 go_wp2_with fail
 go_loopw [0,3] (fun n1 v1 w1=>∃(ys:List UInt8) (m:Nat),n1=.int .u64 m∧Hid (m<2^64)∧Hid (OwnB w1 base v1 ys)∧Hid (ys++putN m=putN n)∧Hid (Below base w w1)∧base≤w1.heap.size) (fun n1 _ _=>(intOf n1).toNat)
 case atStart=>exact⟨[],n,rfl,hn,own_nil _ _ _ _,rfl,Below.refl _ _,by rw[HB.out];omega⟩
 case round =>
  obtain⟨ys,m,rfl,hm,ho,he,hg,hb1⟩:=hrel
  have hl1:ys.length≤1000010:=by
   have h:=congrArg List.length he.out
   have:=putN_length n
   simp only[List.length_append]at h
   omega
  have hroom:Room ys.length 1 1:=room_of (by omega) (by omega)
  by_cases hlt:128≤m
  ·go_wp2_with (at_builtin;refine wpList_push rfl _ _ rfl base u8_elem _ ys.length (ys.map B) rfl wr _ _ rfl ho.out rfl rfl hroom hb1 ?_;intro v' w' ho' hg')
   go_roundw
   case rel =>
    rw[show (m:Int)%128+128=((m%128+128:Nat):Int)from by omega,B_ofNat _ (by omega)]at ho'
    exact⟨ys++[UInt8.ofNat (m%128+128)],m/128,int_congr (by rw[IntKind.wrap_u64];have:=hm.out;simp only[Nat.reducePow]at this;omega),Nat.lt_of_le_of_lt (Nat.div_le_self _ _) hm.out,OwnB.push ho',
     by show _=_;rw[←he.out,putN_step m hlt hm.out];simp,hg.out.grown hg'.by_ hb1 (own_ge ho.out),Nat.le_trans hb1 hg'.by_.size⟩
   case measure =>
    have:=hm.out
    simp only[Nat.reducePow]at this
    simp only[intOf,IntKind.wrap_u64]
    omega
  ·have hlt':m<128:=by omega
   clear hlt
   go_wp2_with (at_builtin;refine wpList_push rfl _ _ rfl base u8_elem _ ys.length (ys.map B) rfl wr _ _ rfl ho.out rfl rfl hroom hb1 ?_;intro v' w' ho' hg')
   go_ret
   rw[B_ofNat _ (by omega)]at ho'
   exact MadeR.of HB (OwnB.push ho') (by rw[←he.out,putN_small m hlt']) (by rw[HB.out];exact hg.out.grown hg'.by_ hb1 (own_ge ho.out))
theorem psRet {w':World} {base:Nat} {v':Value} {ys:List UInt8} {m L:Int} {r:List UInt8} (ho':w'.ownsRow base 5 1 v' (ys.length+1) (ys.map B++[.int .u8 L])) (hL:L=m%128) (hs:-64≤m∧m≤63) (he:ys++putSN m=r):OwnB w' base v' r:=by
 rw[hL,show m%128=(((m%128).toNat:Nat):Int)from by omega,B_ofNat _ (by omega)]at ho'
 exact(OwnB.push ho').cast (by rw[←he,putSN_small m hs])
theorem psGo {w':World} {base:Nat} {v':Value} {ys:List UInt8} {m L:Int} {r:List UInt8} (ho':w'.ownsRow base 5 1 v' (ys.length+1) (ys.map B++[.int .u8 L])) (hL:L=m%128+128) (a1:-9223372036854775808≤m∧m≤9223372036854775807) (hs:m < -64∨63<m) (he:ys++putSN m=r) :
  ∃zs:List UInt8,zs.length=ys.length+1∧OwnB w' base v' zs∧zs++putSN (m/128)=r∧sizeS m=sizeS (m/128)+1:=by
 rw[hL,show m%128+128=(((m%128).toNat+128:Nat):Int)from by omega,B_ofNat _ (by omega)]at ho'
 have h:=putSN_step m a1.1 a1.2 hs
 exact⟨_,by simp,OwnB.push ho',by rw[←he,h.1];simp,h.2⟩
theorem tmod_cases (m:Int):(0≤m.tmod 128∧m.tmod 128=m%128)∨(m.tmod 128<0∧m.tmod 128+128=m%128):=by
 rw[Int.tmod_eq_emod]
 split
 ·left;omega
 ·rename_i h
  right
  have:¬(128 ∣ m):=fun hd=>h (.inr hd)
  have h2:((128:Int).natAbs:Int)=128:=rfl
  omega
theorem rest_eq (m L q:Int) (hm:-9223372036854775680≤m∧m≤9223372036854775807) (hL:L=m%128) (hq:m/128=q):wrap64 ((wrap64 (m-L)).tdiv 128)=q:=by
 have h1:wrap64 (m-L)=128*q:=by unfold wrap64;omega
 rw[h1,Int.mul_tdiv_cancel_left _ (by omega)]
 unfold wrap64
 omega
set_option maxHeartbeats 800000 in
set_option maxRecDepth 100000 in
theorem refPutSigned_any (n:Int) (w:World) (hn:Hid (-9223372036854775808≤n∧n≤9223372036854775807)) :
  Calls Tryz.prog 62 #[.int .i64 n] w (MadeR w (putSN n)):=by
 obtain⟨base,hbase⟩:∃b,w.heap.size=b:=⟨_,rfl⟩
 have HB:=hide hbase;clear hbase
 go_enter Tryz.func62,Tryz.ntmps62
 go_wp2_with fail
 go_loopw [0,3,4] (fun n1 v1 i w1=>∃(ys:List UInt8) (m:Int) (k:Nat),n1=.int .i64 m∧i=.int .i64 k∧Hid (k+sizeS m≤10)∧k≤9∧Hid (-9223372036854775808≤m∧m≤9223372036854775807)∧Hid (OwnB w1 base v1 ys)∧ys.length≤k∧Hid (ys++putSN m=putSN n)∧Hid (Below base w w1)∧base≤w1.heap.size) (fun _ _ i _=>10-(intOf i).toNat)
 case atStart=>exact⟨[],n,0,rfl,rfl,by have:=sizeS_bd n hn.out.1 hn.out.2;show _≤_;omega,by omega,hn,own_nil _ _ _ _,by simp,rfl,Below.refl _ _,by rw[HB.out];omega⟩
 case round =>
  obtain⟨ys,m,k,rfl,rfl,hks,hk9,hm,ho,hl1,he,hg,hb1⟩:=hrel
  have hroom:Room ys.length 1 1:=room_of (by omega) (by omega)
  obtain⟨r,hr⟩:∃r,m.tmod 128=r:=⟨_,rfl⟩
  obtain⟨q,hq⟩:∃q,m/128=q:=⟨_,rfl⟩
  have hqb:-72057594037927936≤q∧q≤72057594037927935:=by have:=hm.out;omega
  have HQ:Hid (m/128=q):=hq
  clear hq
  by_cases hmin:m < -9223372036854775680
  ·have hqm:q=-72057594037927936:=by have:=HQ.out;have:=hm.out;omega
   subst hqm
   rcases tmod_cases m with ⟨hneg,hL⟩|⟨hneg,hL⟩
   ·rw[hr]at hneg hL
    have HL:=hide hL;clear hL
    have hrb:r≤127:=by have:=HL.out;omega
    clear hqb
    go_wp2_with (at_builtin;refine wpList_push rfl _ _ rfl base u8_elem _ ys.length (ys.map B) rfl wr _ _ rfl ho.out rfl rfl hroom hb1 ?_;intro v' w' ho' hg')
    ·go_roundw
     case rel =>
      obtain⟨zs,z1,z2,z3,z4⟩:=psGo ho' (by rw[HL.out]) hm.out (by have:=HQ.out;have:=HL.out;omega) he.out
      rw[HQ.out]at z3 z4
      have hks':=hks.out
      have hszq:=sizeS_bd (-72057594037927936) (by have:=HQ.out;have:=hm.out;omega) (by have:=HQ.out;have:=hm.out;omega)
      exact⟨zs,_,k+1,rfl,by go_num,by show _≤_;omega,by omega,by show _∧_;have:=HQ.out;have:=hm.out;omega,z2,by omega,z3,hg.out.grown hg'.by_ hb1 (own_ge ho.out),Nat.le_trans hb1 hg'.by_.size⟩
     case measure=>simp[intOf]<;>omega
   ·rw[hr]at hneg hL
    have HL:=hide hL;clear hL
    have hrb:-128≤r:=by have:=HL.out;omega
    clear hqb
    go_wp2_with (at_builtin;refine wpList_push rfl _ _ rfl base u8_elem _ ys.length (ys.map B) rfl wr _ _ rfl ho.out rfl rfl hroom hb1 ?_;intro v' w' ho' hg')
    ·go_roundw
     case rel =>
      obtain⟨zs,z1,z2,z3,z4⟩:=psGo ho' (by rw[HL.out]) hm.out (by have:=HQ.out;have:=HL.out;omega) he.out
      rw[HQ.out]at z3 z4
      have hks':=hks.out
      have hszq:=sizeS_bd (-72057594037927936) (by have:=HQ.out;have:=hm.out;omega) (by have:=HQ.out;have:=hm.out;omega)
      exact⟨zs,_,k+1,rfl,by go_num,by show _≤_;omega,by omega,by show _∧_;have:=HQ.out;have:=hm.out;omega,z2,by omega,z3,hg.out.grown hg'.by_ hb1 (own_ge ho.out),Nat.le_trans hb1 hg'.by_.size⟩
     case measure=>simp[intOf]<;>omega
  ·rcases tmod_cases m with ⟨hneg,hL⟩|⟨hneg,hL⟩
   ·rw[hr]at hneg hL
    have hrest:=rest_eq m r q (by have:=hm.out;omega) hL HQ.out
    have HL:=hide hL;clear hL
    have hrb:r≤127:=by have:=HL.out;omega
    clear hqb
    go_wp2_with (at_builtin;refine wpList_push rfl _ _ rfl base u8_elem _ ys.length (ys.map B) rfl wr _ _ rfl ho.out rfl rfl hroom hb1 ?_;intro v' w' ho' hg')
    ·have hq0:q=0:=by assumption
     subst hq0
     go_roundw
     case rel =>
      obtain⟨zs,z1,z2,z3,z4⟩:=psGo ho' (by rw[HL.out]) hm.out (by have:=HQ.out;have:=HL.out;omega) he.out
      rw[HQ.out]at z3 z4
      have hks':=hks.out
      have hszq:=sizeS_bd 0 (by have:=HQ.out;have:=hm.out;omega) (by have:=HQ.out;have:=hm.out;omega)
      exact⟨zs,_,k+1,rfl,by go_num,by show _≤_;omega,by omega,by show _∧_;have:=HQ.out;have:=hm.out;omega,z2,by omega,z3,hg.out.grown hg'.by_ hb1 (own_ge ho.out),Nat.le_trans hb1 hg'.by_.size⟩
     case measure=>simp[intOf]<;>omega
    ·go_ret
     exact MadeR.of HB (psRet ho' HL.out (by have:=HQ.out;have:=HL.out;omega) he.out) rfl (by rw[HB.out];exact hg.out.grown hg'.by_ hb1 (own_ge ho.out))
    ·go_ret
     exact MadeR.of HB (psRet ho' HL.out (by have:=HQ.out;have:=HL.out;omega) he.out) rfl (by rw[HB.out];exact hg.out.grown hg'.by_ hb1 (own_ge ho.out))
    ·have hq0:q=-1:=by assumption
     subst hq0
     go_roundw
     case rel =>
      obtain⟨zs,z1,z2,z3,z4⟩:=psGo ho' (by rw[HL.out]) hm.out (by have:=HQ.out;have:=HL.out;omega) he.out
      rw[HQ.out]at z3 z4
      have hks':=hks.out
      have hszq:=sizeS_bd (-1) (by have:=HQ.out;have:=hm.out;omega) (by have:=HQ.out;have:=hm.out;omega)
      exact⟨zs,_,k+1,rfl,by go_num,by show _≤_;omega,by omega,by show _∧_;have:=HQ.out;have:=hm.out;omega,z2,by omega,z3,hg.out.grown hg'.by_ hb1 (own_ge ho.out),Nat.le_trans hb1 hg'.by_.size⟩
     case measure=>simp[intOf]<;>omega
    ·go_roundw
     case rel =>
      obtain⟨zs,z1,z2,z3,z4⟩:=psGo ho' (by rw[HL.out]) hm.out (by have:=HQ.out;have:=HL.out;omega) he.out
      rw[HQ.out]at z3 z4
      have hks':=hks.out
      have hszq:=sizeS_bd q (by have:=HQ.out;have:=hm.out;omega) (by have:=HQ.out;have:=hm.out;omega)
      exact⟨zs,_,k+1,rfl,by go_num,by show _≤_;omega,by omega,by show _∧_;have:=HQ.out;have:=hm.out;omega,z2,by omega,z3,hg.out.grown hg'.by_ hb1 (own_ge ho.out),Nat.le_trans hb1 hg'.by_.size⟩
     case measure=>simp[intOf]<;>omega
   ·rw[hr]at hneg hL
    have hrest:=rest_eq m (r+128) q (by have:=hm.out;omega) hL HQ.out
    have HL:=hide hL;clear hL
    have hrb:-128≤r:=by have:=HL.out;omega
    clear hqb
    go_wp2_with (at_builtin;refine wpList_push rfl _ _ rfl base u8_elem _ ys.length (ys.map B) rfl wr _ _ rfl ho.out rfl rfl hroom hb1 ?_;intro v' w' ho' hg')
    ·have hq0:q=0:=by assumption
     subst hq0
     go_roundw
     case rel =>
      obtain⟨zs,z1,z2,z3,z4⟩:=psGo ho' (by rw[HL.out]) hm.out (by have:=HQ.out;have:=HL.out;omega) he.out
      rw[HQ.out]at z3 z4
      have hks':=hks.out
      have hszq:=sizeS_bd 0 (by have:=HQ.out;have:=hm.out;omega) (by have:=HQ.out;have:=hm.out;omega)
      exact⟨zs,_,k+1,rfl,by go_num,by show _≤_;omega,by omega,by show _∧_;have:=HQ.out;have:=hm.out;omega,z2,by omega,z3,hg.out.grown hg'.by_ hb1 (own_ge ho.out),Nat.le_trans hb1 hg'.by_.size⟩
     case measure=>simp[intOf]<;>omega
    ·go_ret
     exact MadeR.of HB (psRet ho' HL.out (by have:=HQ.out;have:=HL.out;omega) he.out) rfl (by rw[HB.out];exact hg.out.grown hg'.by_ hb1 (own_ge ho.out))
    ·go_ret
     exact MadeR.of HB (psRet ho' HL.out (by have:=HQ.out;have:=HL.out;omega) he.out) rfl (by rw[HB.out];exact hg.out.grown hg'.by_ hb1 (own_ge ho.out))
    ·have hq0:q=-1:=by assumption
     subst hq0
     go_roundw
     case rel =>
      obtain⟨zs,z1,z2,z3,z4⟩:=psGo ho' (by rw[HL.out]) hm.out (by have:=HQ.out;have:=HL.out;omega) he.out
      rw[HQ.out]at z3 z4
      have hks':=hks.out
      have hszq:=sizeS_bd (-1) (by have:=HQ.out;have:=hm.out;omega) (by have:=HQ.out;have:=hm.out;omega)
      exact⟨zs,_,k+1,rfl,by go_num,by show _≤_;omega,by omega,by show _∧_;have:=HQ.out;have:=hm.out;omega,z2,by omega,z3,hg.out.grown hg'.by_ hb1 (own_ge ho.out),Nat.le_trans hb1 hg'.by_.size⟩
     case measure=>simp[intOf]<;>omega
    ·go_roundw
     case rel =>
      obtain⟨zs,z1,z2,z3,z4⟩:=psGo ho' (by rw[HL.out]) hm.out (by have:=HQ.out;have:=HL.out;omega) he.out
      rw[HQ.out]at z3 z4
      have hks':=hks.out
      have hszq:=sizeS_bd q (by have:=HQ.out;have:=hm.out;omega) (by have:=HQ.out;have:=hm.out;omega)
      exact⟨zs,_,k+1,rfl,by go_num,by show _≤_;omega,by omega,by show _∧_;have:=HQ.out;have:=hm.out;omega,z2,by omega,z3,hg.out.grown hg'.by_ hb1 (own_ge ho.out),Nat.le_trans hb1 hg'.by_.size⟩
     case measure=>simp[intOf]<;>omega
end Go.Proofs.YtpcanheghenhdaaGreat
