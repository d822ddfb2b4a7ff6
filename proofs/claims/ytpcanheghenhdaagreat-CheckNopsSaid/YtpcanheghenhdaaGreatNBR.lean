import Derived.Test.YtpcanheghenhdaaGreatNBQ
import Derived.Deep.DeepCutAuto
set_option linter.unusedVariables false
namespace Go.Proofs.YtpcanheghenhdaaGreat
open Go.RowKit
set_option maxRecDepth 100000 in
set_option maxHeartbeats 20000000 in
theorem rright_any (x:XI) (A:Option Addr) (cl:Nat) (w:World) (hx:Hid x.In) (hr:Hid (Reads w w.heap.size 1 A x.l.length (x.l.map U))) (hl:x.l.length≤1000000) :
  Calls Tryz.prog 39 #[.agg #[.int .i64 x.code,.int .u64 (x.a:Int),.int .u64 (x.b:Int),.int .i64 x.al,.slice A x.l.length cl]] w fun e w'=>e=.returned (.bool (rightX x))∧Hid (Below w.heap.size w w'):=by
 obtain⟨W,hW⟩:∃W,w.alloc (.cells #[.int .i64 x.code,.int .u64 (x.a:Int),.int .u64 (x.b:Int),.int .i64 x.al,.slice A x.l.length cl] 45)=W:=⟨_,rfl⟩
 obtain⟨g,hg⟩:∃g,w.heap.size=g:=⟨_,rfl⟩
 have hb:Below g w W:=by rw[←hW,←hg];exact(Below.refl _ _).alloc (Nat.le_refl _) _
 have hv:RXV W g x A cl:=by rw[←hW,←hg];exact rxv_new w x A cl
 have hgW:g<W.heap.size:=blk_lt hv.blk
 have hrW:Hid (Reads W g 1 A x.l.length (x.l.map U)):=by have:=hr.out;rw[hg]at this;exact this.below hb
 have HNM:=hide (refName_any x.code W hx.out.c1 hx.out.c2)
 have HFO:=hide (fun W=>refForm_any x.code W hx.out.c1 hx.out.c2)
 obtain⟨l0,l1,l2,l3,l4⟩:=hv.cs
 have HB:=hide hb;have HW:=hide hW;have HG:=hide hg;have HV:=hide hv
 clear hb hW hg hv hr
 cases ho:opRow x.code with
 | none =>
  have hnm:=opRow_none ho
  rw[hnm]at HNM
  have HQ:Hid (rightX x=false):=by show _=_;unfold rightX;rw[ho];rfl
  clear hnm ho
  go_enter Tryz.func39,Tryz.ntmps39
  go_upto_region 1 with fail
  rw[HW.out,HG.out]
  go_wp2_with fail
  refine HNM.out.mono ?_;rintro e w1 ⟨rfl,h1⟩
  clear l0 l1 l2 l3 l4 HNM
  go_wp2_with fail
  go_ret
  exact⟨by rw[HQ.out];rfl,by rw[HG.out];exact HB.out.trans (h1.out.mono (by omega))⟩
 | some r =>
  obtain⟨j1,j2,hne,j3,j4,j5⟩:=opRow_ref ho
  clear j1 j2 j3 j4 j5
  have HQ:=hide (right_ref x (by rw[ho];rfl))
  obtain⟨nm,hnm⟩:∃nm,refName x.code=nm:=⟨_,rfl⟩
  rw[hnm]at HNM hne
  have hne2:nm.toList.isEmpty=false:=by
   rw[ByteArray.toList_eq]
   cases hl:nm.data.toList with
   | nil=>exact absurd (by cases nm with|mk d=>exact congrArg ByteArray.mk (Array.toList_eq_nil_iff.1 hl)) hne
   | cons a r=>rfl
  have HFB:=hide (refForm_bd x.code)
  obtain⟨f,hf⟩:∃f,refForm x.code=f:=⟨_,rfl⟩
  rw[hf]at HFB HQ HFO
  clear hf ho hnm hne
  go_enter Tryz.func39,Tryz.ntmps39
  go_upto_region 1 with fail
  rw[HW.out,HG.out]
  go_wp2_with fail
  refine HNM.out.mono ?_;rintro e w1 ⟨rfl,h1⟩
  have HV1:=hide (HV.out.below h1.out hgW)
  have HB1:Hid (Below g w w1):=HB.out.trans (h1.out.mono (by omega))
  have hr1:Hid (Reads w1 g 1 A x.l.length (x.l.map U)):=hrW.out.below (h1.out.mono (by omega))
  have hg1:g<w1.heap.size:=by have:=h1.out.size;omega
  clear l0 l1 l2 l3 l4 HV HB h1 HNM hrW HW
  obtain⟨l0,l1,l2,l3,l4⟩:=HV1.out.cs
  go_wp2_with fail
  refine(HFO.out _).mono ?_;rintro e w2 ⟨rfl,rfl⟩
  clear HFO
  have hff:∀k:Int,(f != k)=!(f==k):=fun k=>rfl
  go_upto_region 4 with fail
  go_cut [37] (fun q wx=>q=.bool (rt1 f x)∧wx=w1)
  case first =>
   cases q11:(f==11)<;>cases q8:(f==8)<;>cases q65:(x.code==65)<;>cases qa:decide ((4294967295:Int)<(x.a:Int))<;>cases qb:decide ((4294967295:Int)<(x.b:Int))
   all_goals
    have n11:(f != 11)=!(f==11):=rfl
    have n8:(f != 8)=!(f==8):=rfl
    rw[q11]at n11
    rw[q8]at n8
    simp only[Bool.not_true,Bool.not_false]at n11 n8
    go_wp2_with fail
    go_meet
    exact⟨by unfold rt1;rw[n11,n8,q65,qa,qb];rfl,rfl⟩
  case rest =>
   obtain⟨rfl,hwc⟩:=hcut
   rw[hwc]
   clear hwc
   cases r1:rt1 f x with
   | true =>
    have HQ1:Hid (rightX x=false):=by show _=_;rw[HQ.out,r1];rfl
    go_wp2_with fail
    go_ret
    exact⟨by rw[HQ1.out];rfl,by rw[HG.out];exact HB1⟩
   | false =>
   have HQ2:Hid (rightX x=(!rt2 f x&&(!rt3 f x&&(x.l.all small&&rt4 f x)))):=by show _=_;rw[HQ.out,r1];rfl
   clear HQ
   go_upto_region 6 with fail
   go_cut [63] (fun q wx=>q=.bool (rt2 f x)∧wx=w1)
   case first =>
    cases q0:(f==0) with
    | false =>
     have n0:(f != 0)=true:=by rw[bne,q0];rfl
     cases q1:(f==1) with
     | false =>
      have n1:(f != 1)=true:=by rw[bne,q1];rfl
      go_wp2_with fail
      go_meet
      exact⟨by unfold rt2;simp only[q0,q1];rfl,rfl⟩
     | true =>
      have n1:(f != 1)=false:=by rw[bne,q1];rfl
      cases p64:((x.a:Int) != 64) with
      | false =>
       cases p126:((x.a:Int) != 126) with
       | false =>
        cases p127:((x.a:Int) != 127) with
        | false =>
         go_wp2_with fail
         go_meet
         exact⟨by unfold rt2;simp only[q0,q1,p64,p126,p127];rfl,rfl⟩
        | true =>
         go_wp2_with fail
         go_meet
         exact⟨by unfold rt2;simp only[q0,q1,p64,p126,p127];rfl,rfl⟩
       | true =>
        cases p127:((x.a:Int) != 127) with
        | false =>
         go_wp2_with fail
         go_meet
         exact⟨by unfold rt2;simp only[q0,q1,p64,p126,p127];rfl,rfl⟩
        | true =>
         go_wp2_with fail
         go_meet
         exact⟨by unfold rt2;simp only[q0,q1,p64,p126,p127];rfl,rfl⟩
      | true =>
       cases p126:((x.a:Int) != 126) with
       | false =>
        cases p127:((x.a:Int) != 127) with
        | false =>
         go_wp2_with fail
         go_meet
         exact⟨by unfold rt2;simp only[q0,q1,p64,p126,p127];rfl,rfl⟩
        | true =>
         go_wp2_with fail
         go_meet
         exact⟨by unfold rt2;simp only[q0,q1,p64,p126,p127];rfl,rfl⟩
       | true =>
        cases p127:((x.a:Int) != 127) with
        | false =>
         go_wp2_with fail
         go_meet
         exact⟨by unfold rt2;simp only[q0,q1,p64,p126,p127];rfl,rfl⟩
        | true =>
         go_wp2_with fail
         go_meet
         exact⟨by unfold rt2;simp only[q0,q1,p64,p126,p127];rfl,rfl⟩
    | true =>
     have n0:(f != 0)=false:=by rw[bne,q0];rfl
     cases q1:(f==1) with
     | false =>
      have n1:(f != 1)=true:=by rw[bne,q1];rfl
      cases p0:((x.a:Int) != 0) with
      | false =>
       go_wp2_with fail
       go_meet
       exact⟨by unfold rt2;simp only[q0,q1,p0];rfl,rfl⟩
      | true =>
       go_wp2_with fail
       go_meet
       exact⟨by unfold rt2;simp only[q0,q1,p0];rfl,rfl⟩
     | true =>
      have n1:(f != 1)=false:=by rw[bne,q1];rfl
      exfalso;simp at q0 q1;omega
   case rest =>
   obtain⟨rfl,hwc⟩:=hcut
   rw[hwc]
   clear hwc
   cases r2:rt2 f x with
   | true =>
    have HQ1:Hid (rightX x=false):=by show _=_;rw[HQ2.out,r2];rfl
    go_wp2_with fail
    go_ret
    exact⟨by rw[HQ1.out];rfl,by rw[HG.out];exact HB1⟩
   | false =>
   have HQ3:Hid (rightX x=(!rt3 f x&&(x.l.all small&&rt4 f x))):=by show _=_;rw[HQ2.out,r2];rfl
   clear HQ2
   go_upto_region 8 with fail
   go_cut [97] (fun q wx=>q=.bool (rt3 f x)∧wx=w1)
   case first =>
    cases q5:(f==5) with
    | false =>
     have n5:(f != 5)=true:=by rw[bne,q5];rfl
     cases q8:(f==8) with
     | false =>
      have n8:(f != 8)=true:=by rw[bne,q8];rfl
      cases q10:(f==10) with
      | false =>
       have n10:(f != 10)=true:=by rw[bne,q10];rfl
       cases pb:((x.b:Int) != 0) with
       | false =>
        cases pa:(x.al != 0) with
        | false =>
         cases d0:decide (x.al<0) with
         | false =>
          cases d31:decide ((31:Int)<x.al) with
          | false =>
           go_wp2_with fail
           go_meet
           exact⟨by unfold rt3;simp only[n5,n8,n10,pb,pa,d0,d31];rfl,rfl⟩
          | true =>
           go_wp2_with fail
           go_meet
           exact⟨by unfold rt3;simp only[n5,n8,n10,pb,pa,d0,d31];rfl,rfl⟩
         | true =>
          cases d31:decide ((31:Int)<x.al) with
          | false =>
           go_wp2_with fail
           go_meet
           exact⟨by unfold rt3;simp only[n5,n8,n10,pb,pa,d0,d31];rfl,rfl⟩
          | true =>
           go_wp2_with fail
           go_meet
           exact⟨by unfold rt3;simp only[n5,n8,n10,pb,pa,d0,d31];rfl,rfl⟩
        | true =>
         cases d0:decide (x.al<0) with
         | false =>
          cases d31:decide ((31:Int)<x.al) with
          | false =>
           go_wp2_with fail
           go_meet
           exact⟨by unfold rt3;simp only[n5,n8,n10,pb,pa,d0,d31];rfl,rfl⟩
          | true =>
           go_wp2_with fail
           go_meet
           exact⟨by unfold rt3;simp only[n5,n8,n10,pb,pa,d0,d31];rfl,rfl⟩
         | true =>
          cases d31:decide ((31:Int)<x.al) with
          | false =>
           go_wp2_with fail
           go_meet
           exact⟨by unfold rt3;simp only[n5,n8,n10,pb,pa,d0,d31];rfl,rfl⟩
          | true =>
           go_wp2_with fail
           go_meet
           exact⟨by unfold rt3;simp only[n5,n8,n10,pb,pa,d0,d31];rfl,rfl⟩
       | true =>
        cases pa:(x.al != 0) with
        | false =>
         cases d0:decide (x.al<0) with
         | false =>
          cases d31:decide ((31:Int)<x.al) with
          | false =>
           go_wp2_with fail
           go_meet
           exact⟨by unfold rt3;simp only[n5,n8,n10,pb,pa,d0,d31];rfl,rfl⟩
          | true =>
           go_wp2_with fail
           go_meet
           exact⟨by unfold rt3;simp only[n5,n8,n10,pb,pa,d0,d31];rfl,rfl⟩
         | true =>
          cases d31:decide ((31:Int)<x.al) with
          | false =>
           go_wp2_with fail
           go_meet
           exact⟨by unfold rt3;simp only[n5,n8,n10,pb,pa,d0,d31];rfl,rfl⟩
          | true =>
           go_wp2_with fail
           go_meet
           exact⟨by unfold rt3;simp only[n5,n8,n10,pb,pa,d0,d31];rfl,rfl⟩
        | true =>
         cases d0:decide (x.al<0) with
         | false =>
          cases d31:decide ((31:Int)<x.al) with
          | false =>
           go_wp2_with fail
           go_meet
           exact⟨by unfold rt3;simp only[n5,n8,n10,pb,pa,d0,d31];rfl,rfl⟩
          | true =>
           go_wp2_with fail
           go_meet
           exact⟨by unfold rt3;simp only[n5,n8,n10,pb,pa,d0,d31];rfl,rfl⟩
         | true =>
          cases d31:decide ((31:Int)<x.al) with
          | false =>
           go_wp2_with fail
           go_meet
           exact⟨by unfold rt3;simp only[n5,n8,n10,pb,pa,d0,d31];rfl,rfl⟩
          | true =>
           go_wp2_with fail
           go_meet
           exact⟨by unfold rt3;simp only[n5,n8,n10,pb,pa,d0,d31];rfl,rfl⟩
      | true =>
       have n10:(f != 10)=false:=by rw[bne,q10];rfl
       cases pa:(x.al != 0) with
       | false =>
        cases d0:decide (x.al<0) with
        | false =>
         cases d31:decide ((31:Int)<x.al) with
         | false =>
          go_wp2_with fail
          go_meet
          exact⟨by unfold rt3;simp only[n5,n8,n10,pa,d0,d31];rfl,rfl⟩
         | true =>
          go_wp2_with fail
          go_meet
          exact⟨by unfold rt3;simp only[n5,n8,n10,pa,d0,d31];rfl,rfl⟩
        | true =>
         cases d31:decide ((31:Int)<x.al) with
         | false =>
          go_wp2_with fail
          go_meet
          exact⟨by unfold rt3;simp only[n5,n8,n10,pa,d0,d31];rfl,rfl⟩
         | true =>
          go_wp2_with fail
          go_meet
          exact⟨by unfold rt3;simp only[n5,n8,n10,pa,d0,d31];rfl,rfl⟩
       | true =>
        cases d0:decide (x.al<0) with
        | false =>
         cases d31:decide ((31:Int)<x.al) with
         | false =>
          go_wp2_with fail
          go_meet
          exact⟨by unfold rt3;simp only[n5,n8,n10,pa,d0,d31];rfl,rfl⟩
         | true =>
          go_wp2_with fail
          go_meet
          exact⟨by unfold rt3;simp only[n5,n8,n10,pa,d0,d31];rfl,rfl⟩
        | true =>
         cases d31:decide ((31:Int)<x.al) with
         | false =>
          go_wp2_with fail
          go_meet
          exact⟨by unfold rt3;simp only[n5,n8,n10,pa,d0,d31];rfl,rfl⟩
         | true =>
          go_wp2_with fail
          go_meet
          exact⟨by unfold rt3;simp only[n5,n8,n10,pa,d0,d31];rfl,rfl⟩
     | true =>
      have n8:(f != 8)=false:=by rw[bne,q8];rfl
      cases q10:(f==10) with
      | false =>
       have n10:(f != 10)=true:=by rw[bne,q10];rfl
       cases d0:decide (x.al<0) with
       | false =>
        cases d31:decide ((31:Int)<x.al) with
        | false =>
         go_wp2_with fail
         go_meet
         exact⟨by unfold rt3;simp only[n5,n8,n10,d0,d31];rfl,rfl⟩
        | true =>
         go_wp2_with fail
         go_meet
         exact⟨by unfold rt3;simp only[n5,n8,n10,d0,d31];rfl,rfl⟩
       | true =>
        cases d31:decide ((31:Int)<x.al) with
        | false =>
         go_wp2_with fail
         go_meet
         exact⟨by unfold rt3;simp only[n5,n8,n10,d0,d31];rfl,rfl⟩
        | true =>
         go_wp2_with fail
         go_meet
         exact⟨by unfold rt3;simp only[n5,n8,n10,d0,d31];rfl,rfl⟩
      | true =>
       have n10:(f != 10)=false:=by rw[bne,q10];rfl
       exfalso;simp at q8 q10;omega
    | true =>
     have n5:(f != 5)=false:=by rw[bne,q5];rfl
     cases q8:(f==8) with
     | false =>
      have n8:(f != 8)=true:=by rw[bne,q8];rfl
      cases q10:(f==10) with
      | false =>
       have n10:(f != 10)=true:=by rw[bne,q10];rfl
       cases pa:(x.al != 0) with
       | false =>
        cases d0:decide (x.al<0) with
        | false =>
         cases d31:decide ((31:Int)<x.al) with
         | false =>
          go_wp2_with fail
          go_meet
          exact⟨by unfold rt3;simp only[n5,n8,n10,pa,d0,d31];rfl,rfl⟩
         | true =>
          go_wp2_with fail
          go_meet
          exact⟨by unfold rt3;simp only[n5,n8,n10,pa,d0,d31];rfl,rfl⟩
        | true =>
         cases d31:decide ((31:Int)<x.al) with
         | false =>
          go_wp2_with fail
          go_meet
          exact⟨by unfold rt3;simp only[n5,n8,n10,pa,d0,d31];rfl,rfl⟩
         | true =>
          go_wp2_with fail
          go_meet
          exact⟨by unfold rt3;simp only[n5,n8,n10,pa,d0,d31];rfl,rfl⟩
       | true =>
        cases d0:decide (x.al<0) with
        | false =>
         cases d31:decide ((31:Int)<x.al) with
         | false =>
          go_wp2_with fail
          go_meet
          exact⟨by unfold rt3;simp only[n5,n8,n10,pa,d0,d31];rfl,rfl⟩
         | true =>
          go_wp2_with fail
          go_meet
          exact⟨by unfold rt3;simp only[n5,n8,n10,pa,d0,d31];rfl,rfl⟩
        | true =>
         cases d31:decide ((31:Int)<x.al) with
         | false =>
          go_wp2_with fail
          go_meet
          exact⟨by unfold rt3;simp only[n5,n8,n10,pa,d0,d31];rfl,rfl⟩
         | true =>
          go_wp2_with fail
          go_meet
          exact⟨by unfold rt3;simp only[n5,n8,n10,pa,d0,d31];rfl,rfl⟩
      | true =>
       have n10:(f != 10)=false:=by rw[bne,q10];rfl
       exfalso;simp at q5 q10;omega
     | true =>
      have n8:(f != 8)=false:=by rw[bne,q8];rfl
      cases q10:(f==10) with
      | false =>
       have n10:(f != 10)=true:=by rw[bne,q10];rfl
       exfalso;simp at q5 q8;omega
      | true =>
       have n10:(f != 10)=false:=by rw[bne,q10];rfl
       exfalso;simp at q5 q8 q10;omega
   case rest =>
   obtain⟨rfl,hwc⟩:=hcut
   rw[hwc]
   clear hwc
   cases r3:rt3 f x with
   | true =>
    have HQ1:Hid (rightX x=false):=by show _=_;rw[HQ3.out,r3];rfl
    go_wp2_with fail
    go_ret
    exact⟨by rw[HQ1.out];rfl,by rw[HG.out];exact HB1⟩
   | false =>
   have HQ4:Hid (rightX x=(x.l.all small&&rt4 f x)):=by show _=_;rw[HQ3.out,r3];rfl
   clear HQ3 r1 r2 r3 l0 l1 l2 l3 l4
   obtain⟨n,hn⟩:∃n,x.l.length=n:=⟨_,rfl⟩
   have HN:=hide hn
   have hn1:n≤1000000:=by omega
   have hlb:Hid (∀w2,Below (g+1) w1 w2→RXV w2 g x A cl):=fun w2 h=>HV1.out.below h (by omega)
   clear hn
   go_wp2_with fail
   go_loopw [4] (fun i w2=>∃k:Nat,i=.int .i64 k∧k≤n∧Hid (Below (g+1) w1 w2)∧Hid ((x.l.take k).all small=true)) (fun i _=>n-(intOf i).toNat)
   case atStart=>exact⟨0,rfl,by omega,Below.refl _ _,by show _=_;simp⟩
   case round =>
    obtain⟨k,rfl,hk,hbw,hst⟩:=hrel
    obtain⟨l0,l1,l2,l3,l4⟩:=(hlb.out wr hbw.out).cs
    by_cases hlt:k<n
    ·obtain⟨ad,v,hA,hvv,u0⟩:=(hr1.out.below (hbw.out.mono (by omega))).elem (k:=k) (by rw[HN.out];exact hlt)
     subst hA
     unfold U at u0
     rw[HN.out]at l4
     have hki:(k:Int)<(n:Int):=by omega
     cases hs:small v with
     | true =>
      have hs2:¬(4294967295:Int)<(v:Int):=by have:=hs;unfold small at this;simp at this;omega
      have HST:Hid ((x.l.take (k+1)).all small=true):=by show _=_;rw[List.take_add_one,hvv.out,List.all_append,hst.out];simp[hs]
      clear hst hvv hs
      go_wp2_with fail
      go_roundw
      case rel=>exact⟨k+1,by go_num,by omega,hbw,HST⟩
      case measure=>simp[intOf]<;>omega
     | false =>
      have hs2:(4294967295:Int)<(v:Int):=by have:=hs;unfold small at this;simp at this;omega
      have HQ1:Hid (rightX x=false):=by
       show _=_
       rw[HQ4.out]
       have:x.l.all small=false:=by
        rw[Bool.eq_false_iff]
        intro h
        have:=List.all_eq_true.1 h v (List.mem_of_getElem? hvv.out)
        rw[hs]at this
        cases this
       rw[this]
       rfl
      clear hst hvv hs
      go_wp2_with fail
      go_ret
      exact⟨by rw[HQ1.out];rfl,by rw[HG.out];exact HB1.out.trans (hbw.out.mono (by omega))⟩
    ·have hkn:k=n:=by omega
     subst hkn
     have HQ5:Hid (rightX x=rt4 f x):=by
      have:=hst.out
      rw[List.take_of_length_le (by rw[HN.out];omega)]at this
      show _=_
      rw[HQ4.out,this]
      rfl
     rw[HN.out]at l4
     clear hst hlt hr1 HV1
     have HN':=HN
     have HR4:Hid (rt4 f x=(((k:Int)==0)||((f==3)&&decide ((k:Int)≤100)))):=by show _=_;unfold rt4;rw[HN.out]
     cases z0:((k:Int)==0) with
     | true =>
      have HQ6:Hid (rightX x=true):=by show _=_;rw[HQ5.out,HR4.out,z0];rfl
      clear HR4
      go_wp2_with fail
      go_ret
      exact⟨by rw[HQ6.out];rfl,by rw[HG.out];exact HB1.out.trans (hbw.out.mono (by omega))⟩
     | false =>
      cases q3:(f==3) with
      | false =>
       have HQ6:Hid (rightX x=false):=by show _=_;rw[HQ5.out,HR4.out,z0,q3];rfl
       clear HR4
       go_wp2_with fail
       go_ret
       exact⟨by rw[HQ6.out];rfl,by rw[HG.out];exact HB1.out.trans (hbw.out.mono (by omega))⟩
      | true =>
       obtain⟨q,hq⟩:∃q,decide ((k:Int)≤100)=q:=⟨_,rfl⟩
       have HQ6:Hid (rightX x=q):=by show _=_;rw[HQ5.out,HR4.out,z0,q3,hq];rfl
       clear HR4
       cases q with
       | true =>
        go_wp2_with fail
        go_ret
        exact⟨by rw[HQ6.out];rfl,by rw[HG.out];exact HB1.out.trans (hbw.out.mono (by omega))⟩
       | false =>
        go_wp2_with fail
        go_ret
        exact⟨by rw[HQ6.out];rfl,by rw[HG.out];exact HB1.out.trans (hbw.out.mono (by omega))⟩
end Go.Proofs.YtpcanheghenhdaaGreat
