import Derived.Test.YtomppgohoplemaaGreatNAL
import Derived.Test.YtomppgohoplemaaGreatNAQ
import Derived.Test.YtomppgohoplemaaGreatNAR
set_option linter.unusedVariables false
namespace Go.Proofs.YtomppgohoplemaaGreat
open Go.RowKit
theorem own_new1 (w:World) (base:Nat) (e:TypeId) (u:Value) (hb:base≤w.heap.size):(w.alloc (.cells #[u] e)).ownsRow base e 1 (.slice (some ⟨w.heap.size,0,none⟩) 1 1) 1 [u] :=
 ⟨rfl,.inr ⟨w.heap.size,1,#[u],rfl,hb,heap_alloc_new w _,Nat.le_refl _,by unfold maxLen;omega,rfl,rfl⟩⟩
theorem own_alloc {w:World} {base:Nat} {e:TypeId} {size n:Nat} {v:Value} {xs:List Value} (h:w.ownsRow base e size v n xs) (o:Obj):(w.alloc o).ownsRow base e size v n xs:=own_only3 h (Only.alloc [] w o) (by simp)
theorem reads_grown {w w':World} {size n:Nat} {A:Option Addr} {xs:List Value} {row:Option Nat} (h:Reads w w.heap.size size A n xs) (hg:w.grownBy w' row) (ha:∀ad g,A=some ad→row=some g→ad.block≠g):Reads w' w'.heap.size size A n xs:=by
 refine⟨h.1,fun hn=>?_⟩
 obtain⟨ad,rfl,hb,hc⟩:=h.2 hn
 refine⟨ad,rfl,Nat.lt_of_lt_of_le hb hg.size,fun j u hu=>?_⟩
 exact(World.cell?_of_block (hg.block (ad.add j).block (by rw[block_of_add];exact hb) (fun e=>ha ad _ rfl e.symm (block_of_add ad j).symm))).trans (hc j u hu)
theorem reads_blk {w:World} {g n:Nat} {cs:List Value} {t:TypeId} (h:w.heap[g]?=some (.cells cs.toArray t (0,0))) (hn:cs.length=n):Reads w w.heap.size 1 (some ⟨g,0,none⟩) n cs:=by
 refine⟨by omega,fun _=>⟨_,rfl,blk_lt h,fun j u hu=>?_⟩⟩
 rw[show (⟨g,0,none⟩:Addr).add j=⟨g,j,none⟩from by unfold Addr.add;split<;>simp_all,cell_blk h j]
 simpa using hu
theorem apart_blk {w:World} {g n base:Nat} {cs:Array Value} {t:TypeId} {v:Value} {xs:List UInt8} (ht:t≠5) (h:w.heap[g]?=some (.cells cs t (0,0))) (ho:OwnB w base v xs):0<n→∀ad q,some (⟨g,0,none⟩:Addr)=some ad→v.ownBlock=some q→ad.block≠q:=by
 intro _ ad q e hq hne
 injection e with e
 subst e
 simp only at hne
 subst hne
 rcases ho.2 with ⟨rfl,_⟩|⟨g',cap,cur,rfl,_,hh,_⟩
 ·cases hq
 ·injection hq with hq
  subst hq
  rw[h]at hh
  injection hh with hh
  injection hh with _ hh _
  exact ht hh
theorem putsL_len (ls:List Nat):(ls.flatMap putN).length≤10*ls.length:=by
 induction ls with
 | nil=>simp
 | cons n r ih =>
  have:=putN_length n
  rw[List.flatMap_cons,List.length_append,List.length_cons]
  omega
theorem puts_take {ls:List Nat} {k n:Nat} (h:ls[k]?=some n):(ls.take (k+1)).flatMap putN=(ls.take k).flatMap putN++putN n:=by
 rw[List.take_add_one,h,List.flatMap_append]
 simp
set_option maxRecDepth 100000 in
set_option maxHeartbeats 800000 in
theorem puts_any (base:Nat) (v:Value) (xs:List UInt8) (A:Option Addr) (c:Nat) (ls:List Nat) (w:World) (hown:Hid (OwnB w base v xs)) (hr:Hid (Reads w w.heap.size 1 A ls.length (ls.map U))) (ha:Hid (0<ls.length→∀ad g,A=some ad→v.ownBlock=some g→ad.block≠g)) (hls:Hid (∀n∈ls,n<2^64)) (hb:base≤w.heap.size) (hl:xs.length+10*ls.length≤900000) :
  Calls Tryz.prog 103 #[v,.slice A ls.length c] w fun e w'=>∃v',e=.returned v'∧OwnB w' base v' (xs++ls.flatMap putN)∧Grows w w' v v':=by
 go_enter Tryz.func103,Tryz.ntmps103
 go_wp2_with fail
 go_loopw [0,6,9] (fun v1 n1 i1 w1=>∃k:Nat,i1=.int .i64 k∧k≤ls.length∧Hid (OwnB w1 base v1 (xs++(ls.take k).flatMap putN))∧Hid (Grows w w1 v v1)) (fun _ _ i1 _=>ls.length-(intOf i1).toNat)
 case atStart=>exact⟨0,rfl,by omega,by show OwnB _ _ _ _;simpa using hown.out,Grows.refl _ _⟩
 case round =>
  obtain⟨k,rfl,hk,ho,hg⟩:=hrel
  by_cases hlt:k<ls.length
  ·have hrk:Reads wr wr.heap.size 1 A ls.length (ls.map U):=reads_grown hr.out hg.out.by_ (ha.out (by omega))
   obtain⟨ad,n,hA,hn,u0⟩:=hrk.elem (k:=k) hlt
   subst hA
   unfold U at u0
   have hn64:Hid (n<2^64):=hls.out n (List.mem_of_getElem? hn.out)
   have hbr:base≤wr.heap.size:=Nat.le_trans hb hg.out.by_.size
   have HPT:=hide (puts_take hn.out)
   have hlen:(xs++(ls.take k).flatMap putN).length≤1000000:=by
    have:=putsL_len (ls.take k)
    rw[List.length_take]at this
    rw[List.length_append]
    omega
   generalize (ls.take k).flatMap putN=ys at ho hlen HPT
   have HP:=hide (fun v1 (h:Hid (OwnB wr base v1 (xs++ys)))=>put_any base v1 (xs++ys) n wr hn64 h hbr hlen)
   have hki:(k:Int)<(ls.length:Int):=by omega
   clear hrk hn
   go_wp2_with fail
   refine(HP.out _ ho).mono ?_;rintro e w2 ⟨v2,rfl,ho2,hg2⟩
   have HO2:=hide ho2;have HG2:=hide hg2
   clear ho2 hg2 u0 HP
   go_wp2_with fail
   go_roundw
   case rel=>exact⟨k+1,by go_num,by omega,by show OwnB _ _ _ _;rw[HPT.out,←List.append_assoc];exact HO2.out,hg.out.trans HG2.out⟩
   case measure=>simp[intOf]<;>omega
  ·have hk2:k=ls.length:=by omega
   subst hk2
   have ho':=ho.out
   rw[List.take_length]at ho'
   have HO:=hide ho'
   clear ho' ho hlt hk
   go_wp2_with fail
   go_ret
   exact⟨_,rfl,HO.out,hg.out⟩
set_option maxHeartbeats 800000 in
theorem head_any (x:XI) (A:Option Addr) (cl:Nat) (w:World) (hc:Hid (codeIn x.code=true)) :
  Calls Tryz.prog 101 #[.agg #[.int .i64 x.code,.int .u64 (x.a:Int),.int .u64 (x.b:Int),.int .i64 x.al,.slice A x.l.length cl]] w fun e w'=>∃v',e=.returned v'∧Hid (OwnB w' w.heap.size v' (headL x.code))∧Hid (Below w.heap.size w w'):=by
 obtain⟨W,hW⟩:∃W,w.alloc (.cells #[.int .i64 x.code,.int .u64 (x.a:Int),.int .u64 (x.b:Int),.int .i64 x.al,.slice A x.l.length cl] 131)=W:=⟨_,rfl⟩
 obtain⟨g,hg⟩:∃g,w.heap.size=g:=⟨_,rfl⟩
 have hb:Below g w W:=by rw[←hW,←hg];exact(Below.refl _ _).alloc (Nat.le_refl _) _
 have hx:XV W g x A cl:=by rw[←hW,←hg];exact xv_new w x A cl
 have hgW:g≤W.heap.size:=Nat.le_of_lt (blk_lt hx.blk)
 obtain⟨l0,l1,l2,l3,l4⟩:=hx.cs
 have HB:=hide hb;have HW:=hide hW;have HG:=hide hg
 clear hb hW hx l1 l2 l3 l4 hg
 have hc2:=hc.out
 unfold codeIn at hc2
 simp only[Bool.or_eq_true,Bool.and_eq_true,decide_eq_true_eq,Bool.not_eq_true',decide_eq_false_iff_not]at hc2
 by_cases h2:x.code<256
 ·have h0:0≤x.code:=by omega
  have hH:Hid (headL x.code=[UInt8.ofNat x.code.toNat]):=by show _=_;unfold headL;rw[if_pos h2]
  have hv:Hid (Value.int .u8 x.code=B (UInt8.ofNat x.code.toNat)):=by show _=_;rw[←B_ofNat _ (by omega)];congr 1;omega
  clear hc2 hc
  go_enter Tryz.func101,Tryz.ntmps101
  go_upto_region 1 with fail
  rw[HW.out,HG.out]
  go_wp2_with fail
  go_ret
  refine⟨_,rfl,?_,?_⟩
  ·show OwnB _ _ _ _
   rw[hH.out,HG.out]
   have:=own_new1 W g 5 (.int .u8 x.code) hgW
   rw[hv.out]at this
   rw[hv.out]
   simpa [OwnB]using this
  ·show Below _ _ _
   rw[HG.out]
   exact HB.out.alloc hgW _
 ·have hH:Hid (headL x.code=252::putN (x.code-64512).toNat):=by show _=_;unfold headL;rw[if_neg h2]
  have h64:64512≤x.code:=by omega
  have h65:x.code≤64529:=by omega
  have HV:Hid (((x.code-64512).toNat:Nat)=x.code-64512):=by show _=_;omega
  obtain⟨m,hm⟩:∃m:Nat,(x.code-64512).toNat=m:=⟨_,rfl⟩
  rw[hm]at hH HV
  have hm64:Hid (m<2^64):=by show _<_;omega
  obtain⟨W2,hW2⟩:∃W2,W.alloc (.cells #[.int .u8 252] 5)=W2:=⟨_,rfl⟩
  obtain⟨gs,hgs⟩:∃gs,W.heap.size=gs:=⟨_,rfl⟩
  have hown:Hid (OwnB W2 g (.slice (some ⟨gs,0,none⟩) 1 1) [252]):=by
   show OwnB _ _ _ _
   rw[←hW2,←hgs]
   exact own_new1 W g 5 (.int .u8 252) hgW
  have hb2:Below g w W2:=by rw[←hW2];exact HB.out.alloc hgW _
  have hc02:(W.alloc (.cells #[.int .u8 252] 5)).cell? ⟨g,0,none⟩=some (.int .i64 x.code):=by exact(World.cell?_alloc_lt W _ _ (by simp;exact World.block_lt_of_cell? W _ l0)).trans l0
  have HP:=hide (put_any g _ [252] m W2 hm64 hown (by rw[←hW2];simp;omega) (by simp))
  have HM:Hid ((m:Int)=x.code-64512):=HV
  have HB2:=hide hb2;have HW2:=hide hW2;have HGS:=hide hgs
  clear hc2 hc hm HV hb2 hW2 hgs
  go_enter Tryz.func101,Tryz.ntmps101
  go_upto_region 1 with fail
  rw[HW.out,HG.out]
  go_wp2_with fail
  rw[HW2.out,HGS.out,←HM.out]
  refine HP.out.mono ?_;rintro e w2 ⟨v2,rfl,ho2,hg2⟩
  have HO2:=hide ho2;have HG2:=hide hg2
  clear ho2 hg2 HP
  go_wp2_with fail
  go_ret
  exact⟨_,rfl,by show OwnB _ _ _ _;rw[hH.out,HG.out];exact HO2.out,by show Below _ _ _;rw[HG.out];exact HG2.out.below' HB2.out (by rw[←HW2.out];simp;omega) (own_ge hown.out)⟩
def memL (x:XI):List UInt8:=if x.a=0 then putN x.al.toNat++putN x.b else putN (x.al.toNat+64)++(putN x.a++putN x.b)
end Go.Proofs.YtomppgohoplemaaGreat
