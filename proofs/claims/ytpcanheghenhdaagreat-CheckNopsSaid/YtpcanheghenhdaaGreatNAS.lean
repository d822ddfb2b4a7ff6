import Derived.Test.YtpcanheghenhdaaGreatNAH
import Derived.Test.YtpcanheghenhdaaGreatShelf
import Derived.Test.YtpcanheghenhdaaGreatNAJ
import Derived.Test.YtpcanheghenhdaaGreatNAO
set_option linter.unusedVariables false
namespace Go.Proofs.YtpcanheghenhdaaGreat
open Go.RowKit
theorem mag_neg (n:Int) (h:n<0):magN n=(-n-1).toNat:=by unfold magN;rw[if_pos h]
theorem mag_pos (n:Int) (h:¬n<0):magN n=n.toNat:=by unfold magN;rw[if_neg h]
theorem xor_minus_one (n:Int) (h1:-9223372036854775808≤n) (h2:n≤9223372036854775807):bits .xor .i64 (-1) n=-n-1:=by
 show IntKind.i64.wrap ((BitVec.ofInt 64 (-1) ^^^ BitVec.ofInt 64 n).toNat:Int)=_
 have e:BitVec.ofInt 64 (-1)=BitVec.allOnes 64:=by decide
 rw[e,BitVec.allOnes_xor,BitVec.toNat_not,BitVec.toNat_ofInt,IntKind.wrap_i64]
 simp only[Nat.reducePow]
 omega
set_option maxHeartbeats 400000 in
theorem sizeSigned_any (n:Int) (w:World) (h1:-9223372036854775808≤n) (h2:n≤9223372036854775807) :
  Calls Tryz.prog 183 #[.int .i64 n] w fun e w'=>e=.returned (.int .i64 (sizeS n))∧w=w':=by
 obtain⟨l,hl⟩:∃l,Lib.bitLen (magN n)=l:=⟨_,rfl⟩
 have hl2:l≤63:=by rw[←hl];exact Lib.bitLen_le _ 63 (by omega) (magN_lt n h1 h2)
 have hm:=magN_lt n h1 h2
 simp only[Nat.reducePow]at hm
 have hc:=Tryz.bits_Len64 (magN n:Int) w (by omega) (by omega)
 rw[show ((magN n:Nat):Int).toNat=magN n from rfl,hl]at hc
 obtain⟨k,hk⟩:∃k,cntN (l+1)=k:=⟨_,rfl⟩
 have hk2:k≤10:=by rw[←hk];unfold cntN;omega
 have HK:Hid (cntN ((l:Int)+1).toNat=k):=by show cntN _=k;rw[←hk];congr 1
 have HS:Hid (sizeS n=k):=by show sizeS n=_;unfold sizeS;rw[hl,←hk];rfl
 clear hk hl
 by_cases h0:n<0
 ·rw[mag_neg n h0,show (((-n-1).toNat:Nat):Int)=-n-1 from by omega]at hc
  have HC:=hide hc;clear hc hm
  go_enter Tryz.func183,Tryz.ntmps183
  have hx:IntKind.u64.wrap (bits .xor .i64 (-1) n)=-n-1:=by
   rw[xor_minus_one n h1 h2,IntKind.wrap_u64];omega
  have HX:=hide hx;clear hx
  go_wp2_with fail
  rw[HX.out]
  refine HC.out.mono ?_;rintro e w' ⟨rfl,rfl⟩
  go_wp2_with fail
  refine(count_any _ k HK _ (by omega) (by omega)).mono ?_;rintro e w' ⟨rfl,rfl⟩
  go_wp2_with fail
  go_ret
  exact⟨ret_int (by rw[HS.out]),rfl⟩
 ·rw[mag_pos n h0,show ((n.toNat:Nat):Int)=n from by omega]at hc
  have HC:=hide hc;clear hc hm
  go_enter Tryz.func183,Tryz.ntmps183
  go_wp2_with fail
  refine HC.out.mono ?_;rintro e w' ⟨rfl,rfl⟩
  go_wp2_with fail
  refine(count_any _ k HK _ (by omega) (by omega)).mono ?_;rintro e w' ⟨rfl,rfl⟩
  go_wp2_with fail
  go_ret
  exact⟨ret_int (by rw[HS.out]),rfl⟩
theorem byte_cont (n:Nat):bits .or .u8 (bits .and .u8 ((n:Int)%256) 127) 128=((n%128+128:Nat):Int):=by
 have h0:(n:Int)%256=((n%256:Nat):Int):=by omega
 have h1:=u8_and_nat (n%256) 127 (Nat.mod_lt _ (by omega)) (by omega)
 rw[and127,show n%256%128=n%128 from by omega]at h1
 have h2:=u8_or_nat (n%128) 128 (by omega) (by omega)
 have h3:n%128 ||| 128=n%128+128:=by rw[Nat.or_comm];exact nat_join 7 128 (n%128) (by omega) (Nat.mod_lt _ (by omega)) |>.trans (by omega)
 rw[h3]at h2
 rw[h0]
 exact(congrArg (fun z=>bits .or .u8 z 128) h1).trans h2
set_option maxHeartbeats 400000 in
set_option maxRecDepth 100000 in
theorem put_any (base:Nat) (v:Value) (xs:List UInt8) (n:Nat) (w:World) (hn:Hid (n<2^64)) (hown:Hid (OwnB w base v xs)) (hb:base≤w.heap.size) (hl:xs.length≤1000000) :
  Calls Tryz.prog 90 #[v,.int .u64 n] w fun e w'=>∃v',e=.returned v'∧OwnB w' base v' (xs++putN n)∧Grows w w' v v':=by
 go_enter Tryz.func90,Tryz.ntmps90
 go_wp2_with fail
 go_loopw [0,1] (fun v1 n1 w1=>∃(ys:List UInt8) (m:Nat),n1=.int .u64 m∧Hid (m<2^64)∧Hid (OwnB w1 base v1 ys)∧Hid (ys++putN m=xs++putN n)∧Hid (Grows w w1 v v1)∧base≤w1.heap.size) (fun _ n1 _=>(intOf n1).toNat)
 case atStart=>exact⟨xs,n,rfl,hn,hown,rfl,Grows.refl _ _,hb⟩
 case round =>
  obtain⟨ys,m,rfl,hm,ho,he,hg,hb1⟩:=hrel
  have hl1:ys.length≤1000010:=by
   have h:=congrArg List.length he.out
   have:=putN_length n
   simp only[List.length_append]at h
   omega
  by_cases hlt:128≤m
  ·have hroom:Room ys.length 1 1:=room_of (by omega) (by omega)
   go_wp2_with (at_builtin;refine wpList_push rfl _ _ rfl base u8_elem _ ys.length (ys.map B) rfl wr _ _ rfl ho.out rfl rfl hroom hb1 ?_;intro v' w' ho' hg')
   go_roundw
   case rel =>
    rw[byte_cont,B_ofNat _ (by omega)]at ho'
    exact⟨ys++[UInt8.ofNat (m%128+128)],m/128,int_congr (by omega),Nat.lt_of_le_of_lt (Nat.div_le_self _ _) hm.out,OwnB.push ho',
     by show _=_;rw[←he.out,putN_step m hlt hm.out];simp,hg.out.trans hg',Nat.le_trans hb1 hg'.by_.size⟩
   case measure=>simp[intOf];omega
  ·have hlt':m<128:=by omega
   clear hlt
   have hroom:Room ys.length 1 1:=room_of (by omega) (by omega)
   go_wp2_with (at_builtin;refine wpList_push rfl _ _ rfl base u8_elem _ ys.length (ys.map B) rfl wr _ _ rfl ho.out rfl rfl hroom hb1 ?_;intro v' w' ho' hg')
   go_ret
   rw[B_ofNat _ (by omega)]at ho'
   exact⟨v',rfl,(OwnB.push ho').cast (by rw[←he.out,putN_small m hlt']),hg.out.trans hg'⟩
theorem byte_low (m:Int):bits .and .u8 (m%256) 127=(((m%128).toNat:Nat):Int):=by
 have h0:m%256=(((m%256).toNat:Nat):Int):=by omega
 have h1:=u8_and_nat (m%256).toNat 127 (by omega) (by omega)
 rw[and127]at h1
 rw[h0]
 refine h1.trans ?_
 congr 1
 omega
theorem byte_high (m:Int):bits .or .u8 (bits .and .u8 (m%256) 127) 128=(((m%128).toNat+128:Nat):Int):=by
 rw[byte_low]
 have h2:=u8_or_nat (m%128).toNat 128 (by omega) (by omega)
 have h3:(m%128).toNat ||| 128=(m%128).toNat+128:=by rw[Nat.or_comm];exact(nat_join 7 128 (m%128).toNat (by omega) (by omega)).trans (by omega)
 rw[h3]at h2
 exact h2
set_option maxHeartbeats 400000 in
set_option maxRecDepth 100000 in
theorem putSigned_any (base:Nat) (v:Value) (xs:List UInt8) (n:Int) (w:World) (h1:-9223372036854775808≤n) (h2:n≤9223372036854775807) (hown:Hid (OwnB w base v xs)) (hb:base≤w.heap.size) (hl:xs.length≤1000000) :
  Calls Tryz.prog 162 #[v,.int .i64 n] w fun e w'=>∃v',e=.returned v'∧OwnB w' base v' (xs++putSN n)∧Grows w w' v v':=by
 have hsz:=sizeS_bd n h1 h2
 obtain⟨s,hs⟩:∃s,sizeS n=s+1:=⟨sizeS n-1,by omega⟩
 have hP:Hid (putSN n=putS s n):=by show putSN n=_;unfold putSN;rw[hs];rfl
 have hs9:s≤9:=by omega
 have hS:=sizeSigned_any n w h1 h2
 rw[hs]at hS
 clear hsz hs
 have HS:=hide hS;clear hS
 go_enter Tryz.func162,Tryz.ntmps162
 go_wp2_with fail
 refine HS.out.mono ?_;rintro e w' ⟨rfl,rfl⟩
 go_wp2_with fail
 go_loopw [0,1,5] (fun v1 n1 i1 w1=>∃(ys:List UInt8) (m:Int) (k:Nat),n1=.int .i64 m∧i1=.int .i64 ((k:Int)+1)∧k≤9∧Hid (-9223372036854775808≤m∧m≤9223372036854775807)∧Hid (OwnB w1 base v1 ys)∧Hid (ys++putS k m=xs++putS s n)∧Hid (Grows w w1 v v1)∧base≤w1.heap.size) (fun _ _ i1 _=>(intOf i1).toNat)
 case atStart=>exact⟨xs,n,s,rfl,by go_num,hs9,⟨h1,h2⟩,hown,rfl,Grows.refl _ _,hb⟩
 case round =>
  obtain⟨ys,m,k,rfl,rfl,hk9,hm,ho,he,hg,hb1⟩:=hrel
  have hl1:ys.length≤1000010:=by
   have h:=congrArg List.length he.out
   simp only[List.length_append,putS_length]at h
   omega
  have hroom:Room ys.length 1 1:=room_of (by omega) (by omega)
  clear h1 h2
  obtain _|k:=k
  ·go_wp2_with (at_builtin;refine wpList_push rfl _ _ rfl base u8_elem _ ys.length (ys.map B) rfl wr _ _ rfl ho.out rfl rfl hroom hb1 ?_;intro v' w' ho' hg')
   go_ret
   rw[byte_low,B_ofNat _ (by omega)]at ho'
   exact⟨v',rfl,(OwnB.push ho').cast (by rw[hP.out,←he.out];rfl),hg.out.trans hg'⟩
  ·go_wp2_with (at_builtin;refine wpList_push rfl _ _ rfl base u8_elem _ ys.length (ys.map B) rfl wr _ _ rfl ho.out rfl rfl hroom hb1 ?_;intro v' w' ho' hg')
   go_roundw
   case rel =>
    rw[byte_high,B_ofNat _ (by omega)]at ho'
    have hm':=hm.out
    exact⟨ys++[UInt8.ofNat ((m%128).toNat+128)],m/128,k,rfl,rfl,by omega,by show _∧_;omega,OwnB.push ho',
     by show _=_;rw[←he.out,putS];simp,hg.out.trans hg',Nat.le_trans hb1 hg'.by_.size⟩
   case measure=>simp[intOf];omega
theorem own_new1 (w:World) (base:Nat) (e:TypeId) (u:Value) (hb:base≤w.heap.size):(w.alloc (.cells #[u] e)).ownsRow base e 1 (.slice (some ⟨w.heap.size,0,none⟩) 1 1) 1 [u] :=
 ⟨rfl,.inr ⟨w.heap.size,1,#[u],rfl,hb,heap_alloc_new w _,Nat.le_refl _,by unfold maxLen;omega,rfl,rfl⟩⟩
theorem own_alloc {w:World} {base:Nat} {e:TypeId} {size n:Nat} {v:Value} {xs:List Value} (h:w.ownsRow base e size v n xs) (o:Obj):(w.alloc o).ownsRow base e size v n xs:=own_only3 h (Only.alloc [] w o) (by simp)
theorem reads_grown {w w':World} {size n:Nat} {A:Option Addr} {xs:List Value} {row:Option Nat} (h:Reads w w.heap.size size A n xs) (hg:w.grownBy w' row) (ha:∀ad g,A=some ad→row=some g→ad.block≠g):Reads w' w'.heap.size size A n xs:=by
 refine⟨h.1,fun hn=>?_⟩
 obtain⟨ad,rfl,hb,hc⟩:=h.2 hn
 refine⟨ad,rfl,Nat.lt_of_lt_of_le hb hg.size,fun j u hu=>?_⟩
 exact(World.cell?_of_block (hg.block (ad.add j).block (by rw[block_of_add];exact hb) (fun e=>ha ad _ rfl e.symm (block_of_add ad j).symm))).trans (hc j u hu)
theorem reads_blk {w:World} {g n:Nat} {cs:List Value} {t:TypeId} (h:w.heap[g]?=some (.cells cs.toArray t (0,0))) (hn:cs.length=n):Reads w w.heap.size 1 (some ⟨g,0,none⟩) n cs:=by
 refine⟨by omega,fun _=>⟨_,rfl,blk_lt h,fun j u hu=>?_⟩⟩
 rw[show (⟨g,0,none⟩:Addr).add j=⟨g,j,none⟩from by unfold Addr.add;split<;>simp_all,cell_blk h j]
 simpa using hu
theorem apart_blk {w:World} {g n base:Nat} {cs:Array Value} {t:TypeId} {v:Value} {xs:List UInt8} (ht:t≠5) (h:w.heap[g]?=some (.cells cs t (0,0))) (ho:OwnB w base v xs):0<n→∀ad q,some (⟨g,0,none⟩:Addr)=some ad→v.ownBlock=some q→ad.block≠q:=by
 intro _ ad q e hq hne
 injection e with e
 subst e
 simp only at hne
 subst hne
 rcases ho.2 with ⟨rfl,_⟩|⟨g',cap,cur,rfl,_,hh,_⟩
 ·cases hq
 ·injection hq with hq
  subst hq
  rw[h]at hh
  injection hh with hh
  injection hh with _ hh _
  exact ht hh
theorem putsL_len (ls:List Nat):(ls.flatMap putN).length≤10*ls.length:=by
 induction ls with
 | nil=>simp
 | cons n r ih =>
  have:=putN_length n
  rw[List.flatMap_cons,List.length_append,List.length_cons]
  omega
theorem puts_take {ls:List Nat} {k n:Nat} (h:ls[k]?=some n):(ls.take (k+1)).flatMap putN=(ls.take k).flatMap putN++putN n:=by
 rw[List.take_add_one,h,List.flatMap_append]
 simp
set_option maxRecDepth 100000 in
set_option maxHeartbeats 800000 in
theorem puts_any (base:Nat) (v:Value) (xs:List UInt8) (A:Option Addr) (c:Nat) (ls:List Nat) (w:World) (hown:Hid (OwnB w base v xs)) (hr:Hid (Reads w w.heap.size 1 A ls.length (ls.map U))) (ha:Hid (0<ls.length→∀ad g,A=some ad→v.ownBlock=some g→ad.block≠g)) (hls:Hid (∀n∈ls,n<2^64)) (hb:base≤w.heap.size) (hl:xs.length+10*ls.length≤900000) :
  Calls Tryz.prog 132 #[v,.slice A ls.length c] w fun e w'=>∃v',e=.returned v'∧OwnB w' base v' (xs++ls.flatMap putN)∧Grows w w' v v':=by
 go_enter Tryz.func132,Tryz.ntmps132
 go_wp2_with fail
 go_loopw [0,6,9] (fun v1 n1 i1 w1=>∃k:Nat,i1=.int .i64 k∧k≤ls.length∧Hid (OwnB w1 base v1 (xs++(ls.take k).flatMap putN))∧Hid (Grows w w1 v v1)) (fun _ _ i1 _=>ls.length-(intOf i1).toNat)
 case atStart=>exact⟨0,rfl,by omega,by show OwnB _ _ _ _;simpa using hown.out,Grows.refl _ _⟩
 case round =>
  obtain⟨k,rfl,hk,ho,hg⟩:=hrel
  by_cases hlt:k<ls.length
  ·have hrk:Reads wr wr.heap.size 1 A ls.length (ls.map U):=reads_grown hr.out hg.out.by_ (ha.out (by omega))
   obtain⟨ad,n,hA,hn,u0⟩:=hrk.elem (k:=k) hlt
   subst hA
   unfold U at u0
   have hn64:Hid (n<2^64):=hls.out n (List.mem_of_getElem? hn.out)
   have hbr:base≤wr.heap.size:=Nat.le_trans hb hg.out.by_.size
   have HPT:=hide (puts_take hn.out)
   have hlen:(xs++(ls.take k).flatMap putN).length≤1000000:=by
    have:=putsL_len (ls.take k)
    rw[List.length_take]at this
    rw[List.length_append]
    omega
   generalize (ls.take k).flatMap putN=ys at ho hlen HPT
   have HP:=hide (fun v1 (h:Hid (OwnB wr base v1 (xs++ys)))=>put_any base v1 (xs++ys) n wr hn64 h hbr hlen)
   have hki:(k:Int)<(ls.length:Int):=by omega
   clear hrk hn
   go_wp2_with fail
   refine(HP.out _ ho).mono ?_;rintro e w2 ⟨v2,rfl,ho2,hg2⟩
   have HO2:=hide ho2;have HG2:=hide hg2
   clear ho2 hg2 u0 HP
   go_wp2_with fail
   go_roundw
   case rel=>exact⟨k+1,by go_num,by omega,by show OwnB _ _ _ _;rw[HPT.out,←List.append_assoc];exact HO2.out,hg.out.trans HG2.out⟩
   case measure=>simp[intOf]<;>omega
  ·have hk2:k=ls.length:=by omega
   subst hk2
   have ho':=ho.out
   rw[List.take_length]at ho'
   have HO:=hide ho'
   clear ho' ho hlt hk
   go_wp2_with fail
   go_ret
   exact⟨_,rfl,HO.out,hg.out⟩
set_option maxHeartbeats 800000 in
theorem head_any (x:XI) (A:Option Addr) (cl:Nat) (w:World) (hc:Hid (codeIn x.code=true)) :
  Calls Tryz.prog 130 #[.agg #[.int .i64 x.code,.int .u64 (x.a:Int),.int .u64 (x.b:Int),.int .i64 x.al,.slice A x.l.length cl]] w fun e w'=>∃v',e=.returned v'∧Hid (OwnB w' w.heap.size v' (headL x.code))∧Hid (Below w.heap.size w w'):=by
 obtain⟨W,hW⟩:∃W,w.alloc (.cells #[.int .i64 x.code,.int .u64 (x.a:Int),.int .u64 (x.b:Int),.int .i64 x.al,.slice A x.l.length cl] 180)=W:=⟨_,rfl⟩
 obtain⟨g,hg⟩:∃g,w.heap.size=g:=⟨_,rfl⟩
 have hb:Below g w W:=by rw[←hW,←hg];exact(Below.refl _ _).alloc (Nat.le_refl _) _
 have hx:XV W g x A cl:=by rw[←hW,←hg];exact xv_new w x A cl
 have hgW:g≤W.heap.size:=Nat.le_of_lt (blk_lt hx.blk)
 obtain⟨l0,l1,l2,l3,l4⟩:=hx.cs
 have HB:=hide hb;have HW:=hide hW;have HG:=hide hg
 clear hb hW hx l1 l2 l3 l4 hg
 have hc2:=hc.out
 unfold codeIn at hc2
 simp only[Bool.or_eq_true,Bool.and_eq_true,decide_eq_true_eq,Bool.not_eq_true',decide_eq_false_iff_not]at hc2
 by_cases h2:x.code<256
 ·have h0:0≤x.code:=by omega
  have hH:Hid (headL x.code=[UInt8.ofNat x.code.toNat]):=by show _=_;unfold headL;rw[if_pos h2]
  have hv:Hid (Value.int .u8 x.code=B (UInt8.ofNat x.code.toNat)):=by show _=_;rw[←B_ofNat _ (by omega)];congr 1;omega
  clear hc2 hc
  go_enter Tryz.func130,Tryz.ntmps130
  go_upto_region 1 with fail
  rw[HW.out,HG.out]
  go_wp2_with fail
  go_ret
  refine⟨_,rfl,?_,?_⟩
  ·show OwnB _ _ _ _
   rw[hH.out,HG.out]
   have:=own_new1 W g 5 (.int .u8 x.code) hgW
   rw[hv.out]at this
   rw[hv.out]
   simpa [OwnB]using this
  ·show Below _ _ _
   rw[HG.out]
   exact HB.out.alloc hgW _
 ·have hH:Hid (headL x.code=252::putN (x.code-64512).toNat):=by show _=_;unfold headL;rw[if_neg h2]
  have h64:64512≤x.code:=by omega
  have h65:x.code≤64529:=by omega
  have HV:Hid (((x.code-64512).toNat:Nat)=x.code-64512):=by show _=_;omega
  obtain⟨m,hm⟩:∃m:Nat,(x.code-64512).toNat=m:=⟨_,rfl⟩
  rw[hm]at hH HV
  have hm64:Hid (m<2^64):=by show _<_;omega
  obtain⟨W2,hW2⟩:∃W2,W.alloc (.cells #[.int .u8 252] 5)=W2:=⟨_,rfl⟩
  obtain⟨gs,hgs⟩:∃gs,W.heap.size=gs:=⟨_,rfl⟩
  have hown:Hid (OwnB W2 g (.slice (some ⟨gs,0,none⟩) 1 1) [252]):=by
   show OwnB _ _ _ _
   rw[←hW2,←hgs]
   exact own_new1 W g 5 (.int .u8 252) hgW
  have hb2:Below g w W2:=by rw[←hW2];exact HB.out.alloc hgW _
  have hc02:(W.alloc (.cells #[.int .u8 252] 5)).cell? ⟨g,0,none⟩=some (.int .i64 x.code):=by exact(World.cell?_alloc_lt W _ _ (by simp;exact World.block_lt_of_cell? W _ l0)).trans l0
  have HP:=hide (put_any g _ [252] m W2 hm64 hown (by rw[←hW2];simp;omega) (by simp))
  have HM:Hid ((m:Int)=x.code-64512):=HV
  have HB2:=hide hb2;have HW2:=hide hW2;have HGS:=hide hgs
  clear hc2 hc hm HV hb2 hW2 hgs
  go_enter Tryz.func130,Tryz.ntmps130
  go_upto_region 1 with fail
  rw[HW.out,HG.out]
  go_wp2_with fail
  rw[HW2.out,HGS.out,←HM.out]
  refine HP.out.mono ?_;rintro e w2 ⟨v2,rfl,ho2,hg2⟩
  have HO2:=hide ho2;have HG2:=hide hg2
  clear ho2 hg2 HP
  go_wp2_with fail
  go_ret
  exact⟨_,rfl,by show OwnB _ _ _ _;rw[hH.out,HG.out];exact HO2.out,by show Below _ _ _;rw[HG.out];exact HG2.out.below' HB2.out (by rw[←HW2.out];simp;omega) (own_ge hown.out)⟩
def memL (x:XI):List UInt8:=if x.a=0 then putN x.al.toNat++putN x.b else putN (x.al.toNat+64)++(putN x.a++putN x.b)
end Go.Proofs.YtpcanheghenhdaaGreat
