import Derived.Test.YtpcanheghenhdaaGreatNAT
import Derived.Test.YtpcanheghenhdaaGreatNAK
import Derived.Test.YtpcanheghenhdaaGreatNBR
import Derived.Test.YtpcanheghenhdaaGreatNBS
import Derived.Deep.DeepCutAuto
set_option linter.unusedVariables false
namespace Go.Proofs.YtpcanheghenhdaaGreat
open Go.RowKit
structure RE (W:World) (g:Nat) (w:World) (v:Value) (ys:List UInt8):Prop where
 own:OwnB w (g+1) v ys
 bel:Below (g+1) W w
 size:g+1≤w.heap.size
theorem RE.put {W w w1 w2:World} {g:Nat} {v v':Value} {ys bs:List UInt8} (h:RE W g w v ys) (hb:Below w.heap.size w w1) (ho:OwnB w2 (g+1) v' (ys++bs)) (hg:Grows w1 w2 v v'):RE W g w2 v' (ys++bs) :=
 ⟨ho,hg.below' (h.bel.trans (hb.mono h.size)) (Nat.le_trans h.size hb.size) (own_ge h.own),Nat.le_trans h.size (Nat.le_trans hb.size hg.by_.size)⟩
theorem RE.step {W w w1:World} {g:Nat} {v:Value} {ys:List UInt8} (h:RE W g w v ys) (hb:Below w.heap.size w w1):RE W g w1 v ys :=
 ⟨own_grew h.own hb,h.bel.trans (hb.mono h.size),Nat.le_trans h.size hb.size⟩
theorem OwnB.app {w:World} {base:Nat} {v:Value} {xs bs:List UInt8} (h:w.ownsRow base 5 1 v (xs.length+bs.length) (xs.map B++bs.map B)):OwnB w base v (xs++bs):=by
 unfold OwnB
 rw[List.length_append,List.map_append]
 exact h
def RefEncP (x:XI) (w:World) (e:Ending) (w':World):Prop:=∃v',e=.returned v'∧Hid (OwnB w' w.heap.size v' (encX x))∧Hid (Below w.heap.size w w')
theorem RE.fin {x:XI} {w W w':World} {g:Nat} {v:Value} {ys:List UInt8} (hg:w.heap.size=g) (hb:Below g w W) (h:RE W g w' v ys) (he:encX x=ys):RefEncP x w (.returned v) w':=by
 refine⟨v,rfl,?_,?_⟩
 ·show OwnB _ _ _ _
  rw[he,hg]
  exact own_base h.own (fun q hq=>by have:=own_ge h.own q hq;omega)
 ·show Below _ _ _
  rw[hg]
  exact hb.trans (h.bel.mono (by omega))
theorem putSN_lenB (n:Int) (h:-9223372036854775808≤n∧n≤9223372036854775807):(putSN n).length≤10:=by unfold putSN;rw[putS_length];have:=sizeS_bd n h.1 h.2;omega
theorem run_al (n:Nat) (h:n≤31) (W:World):(convert 3 42 (.int .i64 (n:Int))).run Tryz.prog W=.ok (.int .u64 (n:Int)) W:=by
 have h1:IntKind.u64.wrap (n:Int)=n:=by rw[IntKind.wrap_u64];omega
 go_simp
theorem run_al64 (n:Nat) (h:n≤31) (W:World):(binOp .add 42 (.int .u64 (n:Int)) (.int .u64 64)).run Tryz.prog W=.ok (.int .u64 ((n+64:Nat):Int)) W:=by
 have h1:IntKind.u64.wrap ((n:Int)+64)=(n:Int)+64:=by rw[IntKind.wrap_u64];omega
 go_simp
set_option maxRecDepth 100000 in
set_option maxHeartbeats 20000000 in
theorem refEncode_any (x:XI) (A:Option Addr) (cl:Nat) (w:World) (hx:Hid x.In) (hr:Hid (Reads w w.heap.size 1 A x.l.length (x.l.map U))) (hl:x.l.length≤1000000) (hq:Hid (rightX x=true)) :
  Calls Tryz.prog 42 #[.agg #[.int .i64 x.code,.int .u64 (x.a:Int),.int .u64 (x.b:Int),.int .i64 x.al,.slice A x.l.length cl]] w (RefEncP x w):=by
 obtain⟨r,hor,hci,hrf⟩:=right_some hq.out
 obtain⟨W,hW⟩:∃W,w.alloc (.cells #[.int .i64 x.code,.int .u64 (x.a:Int),.int .u64 (x.b:Int),.int .i64 x.al,.slice A x.l.length cl] 45)=W:=⟨_,rfl⟩
 obtain⟨g,hg⟩:∃g,w.heap.size=g:=⟨_,rfl⟩
 have hb:Below g w W:=by rw[←hW,←hg];exact(Below.refl _ _).alloc (Nat.le_refl _) _
 have hv:RXV W g x A cl:=by rw[←hW,←hg];exact rxv_new w x A cl
 have hgW:W.heap.size=g+1:=by rw[←hW,←hg];simp
 have hrW:Hid (Reads W (g+1) 1 A x.l.length (x.l.map U)):=by have:=hr.out;rw[hg]at this;exact(this.below hb).more (by omega)
 have HFO:=hide (fun W=>refForm_any x.code W hx.out.c1 hx.out.c2)
 have hhl:(headL x.code).length≤20:=by unfold headL;have:=putN_length (x.code-64512).toNat;split<;>simp;omega
 have HQ:Hid (encX x=headL x.code++bodyL (refForm x.code) x):=rfl
 have hfb:=refForm_bd x.code
 obtain⟨l0,l1,l2,l3,l4⟩:=hv.cs
 have HB:=hide hb;have HW:=hide hW;have HG:=hide hg;have HV:=hide hv;have HRF:=hide hrf
 have HGW:=hide hgW
 have ha64:=hx.out.a
 have hb64:=hx.out.b
 unfold codeIn at hci
 simp only[Bool.or_eq_true,Bool.and_eq_true,decide_eq_true_eq,Bool.not_eq_true',decide_eq_false_iff_not]at hci
 have hu8:x.code%256<256:=Int.emod_lt_of_pos _ (by omega)
 have hu0:0≤x.code%256:=Int.emod_nonneg _ (by omega)
 obtain⟨W1,hW1⟩:∃W1,W.alloc (.cells #[.int .u8 (x.code%256)] 5)=W1:=⟨_,rfl⟩
 have hRE1:Hid (RE W g W1 (.slice (some ⟨g+1,0,none⟩) 1 1) [UInt8.ofNat (x.code%256).toNat]):=by
  refine⟨?_,by rw[←hW1];exact(Below.refl _ _).alloc (by omega) _,by rw[←hW1];simp;omega⟩
  rw[←hW1,←hgW]
  have:=own_new1 W W.heap.size 5 (.int .u8 (x.code%256)) (Nat.le_refl _)
  rw[show Value.int .u8 (x.code%256)=B (UInt8.ofNat (x.code%256).toNat)from by rw[←B_ofNat _ (by omega)];congr 1;omega]at this ⊢
  simpa [OwnB]using this
 have HW1:=hide hW1
 clear hb hW hg hv hr hq hor hrf hgW hW1
 go_enter Tryz.func42,Tryz.ntmps42
 go_upto_region 2 with fail
 rw[HW.out,HG.out,HW1.out]
 clear l0 l1 l2 l3 l4
 obtain⟨l0,l1,l2,l3,l4⟩:=(HV.out.below hRE1.out.bel (by omega)).cs
 go_upto_if 12 with fail
 go_cut [3] (fun v3 wx=>Hid (RE W g wx v3 (headL x.code)))
 case first =>
  by_cases h64:64512≤x.code
  ·have h65:x.code≤64529:=by omega
   obtain⟨m,hm⟩:∃m:Nat,x.code-64512=(m:Int):=⟨(x.code-64512).toNat,by omega⟩
   have hH:Hid (headL x.code=[252]++putN m):=by show _=_;unfold headL;rw[if_neg (by omega),hm];rfl
   obtain⟨W2,hW2⟩:∃W2,W1.alloc (.cells #[.int .u8 252] 5)=W2:=⟨_,rfl⟩
   obtain⟨g2,hg2⟩:∃g2,W1.heap.size=g2:=⟨_,rfl⟩
   have hRE2:Hid (RE W g W2 (.slice (some ⟨g2,0,none⟩) 1 1) [252]):=by
    have h1:=hRE1.out.size
    refine⟨?_,by rw[←hW2];exact hRE1.out.bel.alloc h1 _,by rw[←hW2];simp;omega⟩
    rw[←hW2,←hg2]
    exact own_new1 W1 (g+1) 5 (.int .u8 252) h1
   have HP:=hide (refPut_any m W2 (by show _<_;omega))
   have hroom:Room ([252]:List UInt8).length (putN m).length 1:=by have:=putN_length m;exact room_of (by simp;omega) (by omega)
   have HW2:=hide hW2;have HG2:=hide hg2
   have hc0:W2.cell? ⟨g,0,none⟩=some (.int .i64 x.code):=(HV.out.below hRE2.out.bel (by omega)).cs.1
   have hc1:(W1.alloc (.cells #[.int .u8 252] 5)).cell? ⟨g,0,none⟩=some (.int .i64 x.code):=by rw[hW2];exact hc0
   clear hW2 hg2 hc0
   go_wp2_with fail
   rw[HW2.out,HG2.out]
   refine HP.out.mono ?_;rintro e w3 ⟨Ap,cp,rfl,rp,hb3,hl3,ho3⟩
   clear hc1 HP l0 l1 l2 l3 l4
   have hown:=hide (own_grew hRE2.out.own hb3.out)
   have hsz3:g+1≤w3.heap.size:=Nat.le_trans hRE2.out.size hb3.out.size
   go_wp2_with (at_builtin;refine wpList_append_any rfl _ _ rfl (g+1) u8_elem _ ([252]:List UInt8).length (([252]:List UInt8).map B) rfl hown.out w3.heap.size Ap (putN m).length cp ((putN m).map B) rfl rp.out (B_map_one _) hroom hsz3 ?_;intro v4 w4 ho4 hg4;have HO4:=hide ho4;have HG4:=hide hg4;clear ho4 hg4)
   go_meet
   exact(by show RE _ _ _ _ _;rw[hH.out];exact hRE2.out.put hb3.out (OwnB.app HO4.out) HG4.out)
  ·have h256:x.code<256:=by omega
   have h00:0≤x.code:=by omega
   have hH:Hid (headL x.code=[UInt8.ofNat (x.code%256).toNat]):=by show _=_;unfold headL;rw[if_pos h256,Int.emod_eq_of_lt h00 h256]
   go_wp2_with fail
   go_meet
   exact(by show RE _ _ _ _ _;rw[hH.out];exact hRE1.out)
 case rest =>
  have HE:=hcut
  clear hcut
  generalize u3=v3 at HE ⊢
  clear l0 l1 l2 l3 l4 HW HW1 hRE1 hci hu8 hu0
  obtain⟨l0,l1,l2,l3,l4⟩:=(HV.out.below HE.out.bel (by omega)).cs
  go_wp2_with fail
  refine(HFO.out _).mono ?_;rintro e w' ⟨rfl,rfl⟩
  have HF11:=hide (form11 (c:=x.code))
  generalize headL x.code=hd at HE HQ hhl
  generalize refForm x.code=f at hfb HQ HRF HF11 ⊢
  clear HFO
  rcases hfb with rfl|rfl|rfl|rfl|rfl|rfl|rfl|rfl|rfl|rfl|rfl|rfl
  ·as_aux_lemma =>
   go_wp2_with fail
   go_ret
   exact RE.fin HG.out HB.out HE.out (by rw[HQ.out];simp[bodyL])
  ·as_aux_lemma =>
   have hbl:x.a=64∨x.a=126∨x.a=127:=by
    have:=HRF.out
    simp[rightF,blocked]at this
    omega
   rcases hbl with hk|hk|hk
   ·rw[hk]at l1
    have hsz:g+1≤wc.heap.size:=HE.out.size
    have hroom:Room hd.length 1 1:=room_of (by omega) (by omega)
    have HK:=hide hk
    clear hk
    go_wp2_with (at_builtin;refine wpList_push rfl _ _ rfl (g+1) u8_elem v3 hd.length (hd.map B) rfl wc (.int .u8 64) _ rfl HE.out.own rfl rfl hroom hsz ?_;intro v4 w4 ho4 hg4;have HE1:Hid (RE W g w4 v4 (hd++[64])):=HE.out.put (Below.refl _ _) (OwnB.push (b:=64) ho4) hg4;clear ho4 hg4)
    go_ret
    exact RE.fin HG.out HB.out HE1.out (by rw[HQ.out];simp[bodyL,HK.out])
   ·rw[hk]at l1
    have hsz:g+1≤wc.heap.size:=HE.out.size
    have hroom:Room hd.length 1 1:=room_of (by omega) (by omega)
    have HK:=hide hk
    clear hk
    go_wp2_with (at_builtin;refine wpList_push rfl _ _ rfl (g+1) u8_elem v3 hd.length (hd.map B) rfl wc (.int .u8 126) _ rfl HE.out.own rfl rfl hroom hsz ?_;intro v4 w4 ho4 hg4;have HE1:Hid (RE W g w4 v4 (hd++[126])):=HE.out.put (Below.refl _ _) (OwnB.push (b:=126) ho4) hg4;clear ho4 hg4)
    go_ret
    exact RE.fin HG.out HB.out HE1.out (by rw[HQ.out];simp[bodyL,HK.out])
   ·rw[hk]at l1
    have hsz:g+1≤wc.heap.size:=HE.out.size
    have hroom:Room hd.length 1 1:=room_of (by omega) (by omega)
    have HK:=hide hk
    clear hk
    go_wp2_with (at_builtin;refine wpList_push rfl _ _ rfl (g+1) u8_elem v3 hd.length (hd.map B) rfl wc (.int .u8 127) _ rfl HE.out.own rfl rfl hroom hsz ?_;intro v4 w4 ho4 hg4;have HE1:Hid (RE W g w4 v4 (hd++[127])):=HE.out.put (Below.refl _ _) (OwnB.push (b:=127) ho4) hg4;clear ho4 hg4)
    go_ret
    exact RE.fin HG.out HB.out HE1.out (by rw[HQ.out];simp[bodyL,HK.out])
  ·as_aux_lemma =>
   have HP1:=hide (refPut_any x.a wc (by show _<_;omega))
   have hlb1:=putN_length x.a
   have hroom1:Room (hd).length (putN x.a).length 1:=room_of (by first|omega|(simp only[List.length_append];omega)) (by omega)
   go_wp2_with fail
   refine HP1.out.mono ?_;rintro e wp1 ⟨Ap1,cp1,rfl,rp1,hb1,hl1,ho1⟩
   clear HP1 l0 l1 l2 l3 l4
   have hown1:=hide (own_grew HE.out.own hb1.out)
   have hsz1:g+1≤wp1.heap.size:=Nat.le_trans HE.out.size hb1.out.size
   go_wp2_with (at_builtin;refine wpList_append_any rfl _ _ rfl (g+1) u8_elem _ (hd).length ((hd).map B) rfl hown1.out wp1.heap.size Ap1 (putN x.a).length cp1 ((putN x.a).map B) rfl rp1.out (B_map_one _) hroom1 hsz1 ?_;intro vq1 wq1 hoq hgq;have HE1:Hid (RE W g wq1 vq1 (hd++(putN x.a))):=HE.out.put hb1.out (OwnB.app hoq) hgq;clear hoq hgq;obtain⟨l0,l1,l2,l3,l4⟩:=(HV.out.below HE1.out.bel (by omega)).cs)
   go_ret
   exact RE.fin HG.out HB.out HE1.out (by rw[HQ.out];simp[bodyL])
  ·as_aux_lemma =>
   have hl100:x.l.length≤100:=by
    have:=HRF.out
    simp[rightF]at this
    omega
   have HLL:=hide hx.out.l
   have HP1:=hide (refPut_any x.l.length wc (by show _<_;omega))
   have hlb1:=putN_length x.l.length
   have hroom1:Room (hd).length (putN x.l.length).length 1:=room_of (by first|omega|(simp only[List.length_append];omega)) (by omega)
   go_wp2_with fail
   refine HP1.out.mono ?_;rintro e wp1 ⟨Ap1,cp1,rfl,rp1,hb1,hl1,ho1⟩
   clear HP1 l0 l1 l2 l3 l4
   have hown1:=hide (own_grew HE.out.own hb1.out)
   have hsz1:g+1≤wp1.heap.size:=Nat.le_trans HE.out.size hb1.out.size
   go_wp2_with (at_builtin;refine wpList_append_any rfl _ _ rfl (g+1) u8_elem _ (hd).length ((hd).map B) rfl hown1.out wp1.heap.size Ap1 (putN x.l.length).length cp1 ((putN x.l.length).map B) rfl rp1.out (B_map_one _) hroom1 hsz1 ?_;intro vq1 wq1 hoq hgq;have HE1:Hid (RE W g wq1 vq1 (hd++(putN x.l.length))):=HE.out.put hb1.out (OwnB.app hoq) hgq;clear hoq hgq;obtain⟨l0,l1,l2,l3,l4⟩:=(HV.out.below HE1.out.bel (by omega)).cs)
   go_loopw [3,4] (fun v1 i1 w1=>∃k:Nat,i1=.int .i64 k∧k≤x.l.length∧Hid (RE W g w1 v1 (hd++putN x.l.length++(x.l.take k).flatMap putN))) (fun _ i1 _=>x.l.length-(intOf i1).toNat)
   case atStart=>exact⟨0,rfl,by omega,by show RE _ _ _ _ _;simpa using HE1.out⟩
   case round =>
    obtain⟨k,rfl,hk,ho⟩:=hrel
    clear l0 l1 l2 l3 l4
    obtain⟨l0,l1,l2,l3,l4⟩:=(HV.out.below ho.out.bel (by omega)).cs
    by_cases hlt:k<x.l.length
    ·have hrk:Reads wr (g+1) 1 A x.l.length (x.l.map U):=hrW.out.below ho.out.bel
     obtain⟨ad,n,hA,hn,u0⟩:=hrk.elem (k:=k) hlt
     subst hA
     unfold U at u0
     have hn64:n<18446744073709551616:=HLL.out n (List.mem_of_getElem? hn.out)
     have HPT:=hide (puts_take hn.out)
     have hlen:=putsL_len (x.l.take k)
     rw[List.length_take]at hlen
     generalize (x.l.take k).flatMap putN=ys at ho hlen HPT
     have hki:(k:Int)<(x.l.length:Int):=by omega
     clear hrk hn
     have HP2:=hide (refPut_any n wr (by show _<_;omega))
     have hlb2:=putN_length n
     have hroom2:Room (hd++putN x.l.length++ys).length (putN n).length 1:=room_of (by first|omega|(simp only[List.length_append];omega)) (by omega)
     go_wp2_with fail
     refine HP2.out.mono ?_;rintro e wp2 ⟨Ap2,cp2,rfl,rp2,hb2,hl2,ho2⟩
     clear HP2 l0 l1 l2 l3 l4
     have hown2:=hide (own_grew ho.out.own hb2.out)
     have hsz2:g+1≤wp2.heap.size:=Nat.le_trans ho.out.size hb2.out.size
     go_wp2_with (at_builtin;refine wpList_append_any rfl _ _ rfl (g+1) u8_elem _ (hd++putN x.l.length++ys).length ((hd++putN x.l.length++ys).map B) rfl hown2.out wp2.heap.size Ap2 (putN n).length cp2 ((putN n).map B) rfl rp2.out (B_map_one _) hroom2 hsz2 ?_;intro vq2 wq2 hoq hgq;have HE2:Hid (RE W g wq2 vq2 (hd++putN x.l.length++ys++(putN n))):=ho.out.put hb2.out (OwnB.app hoq) hgq;clear hoq hgq;obtain⟨l0,l1,l2,l3,l4⟩:=(HV.out.below HE2.out.bel (by omega)).cs)
     go_roundw
     case rel=>exact⟨k+1,by go_num,by omega,by show RE _ _ _ _ _;rw[HPT.out,←List.append_assoc];exact HE2.out⟩
     case measure=>simp[intOf]<;>omega
    ·have hk2:k=x.l.length:=by omega
     subst hk2
     have ho':=ho.out
     rw[List.take_length]at ho'
     have HO:=hide ho'
     have hlen:=putsL_len x.l
     clear ho' ho hlt hk
     have HP2:=hide (refPut_any x.a wr (by show _<_;omega))
     have hlb2:=putN_length x.a
     have hroom2:Room (hd++putN x.l.length++x.l.flatMap putN).length (putN x.a).length 1:=room_of (by first|omega|(simp only[List.length_append];omega)) (by omega)
     go_wp2_with fail
     refine HP2.out.mono ?_;rintro e wp2 ⟨Ap2,cp2,rfl,rp2,hb2,hl2,ho2⟩
     clear HP2 l0 l1 l2 l3 l4
     have hown2:=hide (own_grew HO.out.own hb2.out)
     have hsz2:g+1≤wp2.heap.size:=Nat.le_trans HO.out.size hb2.out.size
     go_wp2_with (at_builtin;refine wpList_append_any rfl _ _ rfl (g+1) u8_elem _ (hd++putN x.l.length++x.l.flatMap putN).length ((hd++putN x.l.length++x.l.flatMap putN).map B) rfl hown2.out wp2.heap.size Ap2 (putN x.a).length cp2 ((putN x.a).map B) rfl rp2.out (B_map_one _) hroom2 hsz2 ?_;intro vq2 wq2 hoq hgq;have HE2:Hid (RE W g wq2 vq2 (hd++putN x.l.length++x.l.flatMap putN++(putN x.a))):=HO.out.put hb2.out (OwnB.app hoq) hgq;clear hoq hgq;obtain⟨l0,l1,l2,l3,l4⟩:=(HV.out.below HE2.out.bel (by omega)).cs)
     go_ret
     exact RE.fin HG.out HB.out HE2.out (by rw[HQ.out];simp[bodyL])
  ·as_aux_lemma =>
   have HP1:=hide (refPut_any x.a wc (by show _<_;omega))
   have hlb1:=putN_length x.a
   have hroom1:Room (hd).length (putN x.a).length 1:=room_of (by first|omega|(simp only[List.length_append];omega)) (by omega)
   go_wp2_with fail
   refine HP1.out.mono ?_;rintro e wp1 ⟨Ap1,cp1,rfl,rp1,hb1,hl1,ho1⟩
   clear HP1 l0 l1 l2 l3 l4
   have hown1:=hide (own_grew HE.out.own hb1.out)
   have hsz1:g+1≤wp1.heap.size:=Nat.le_trans HE.out.size hb1.out.size
   go_wp2_with (at_builtin;refine wpList_append_any rfl _ _ rfl (g+1) u8_elem _ (hd).length ((hd).map B) rfl hown1.out wp1.heap.size Ap1 (putN x.a).length cp1 ((putN x.a).map B) rfl rp1.out (B_map_one _) hroom1 hsz1 ?_;intro vq1 wq1 hoq hgq;have HE1:Hid (RE W g wq1 vq1 (hd++(putN x.a))):=HE.out.put hb1.out (OwnB.app hoq) hgq;clear hoq hgq;obtain⟨l0,l1,l2,l3,l4⟩:=(HV.out.below HE1.out.bel (by omega)).cs)
   go_ret
   exact RE.fin HG.out HB.out HE1.out (by rw[HQ.out];simp[bodyL])
  ·as_aux_lemma =>
   have HLG:Hid (g<wc.heap.size∧g∉v3.ownBlock.toList):=⟨by have:=HE.out.size;omega,fun hm=>by have:=own_ge HE.out.own g (by simpa using hm);omega⟩
   have HVC:=hide (HV.out.below HE.out.bel (by omega))
   have hlb1:=putN_length x.a
   have hlb2:=putN_length x.b
   have hroom1:Room hd.length (putN x.a).length 1:=room_of (by omega) (by omega)
   have hroom2:Room (hd++putN x.a).length (putN x.b).length 1:=room_of (by simp only[List.length_append];omega) (by omega)
   go_upto_region 22 with fail
   clear l0 l1 l2 l3 l4
   refine wp_region_two (l:=[_,_,_,_,_,_,_,_]) (o1:=_) (o2:=_) grew_ext (Only.ext v3.ownBlock.toList) (fun _ _ h=>Only.of_below h) [4] 4 (factsOf [fun yy _=>yy=v3,
    fun yy _=>yy=.pointer (some ⟨g,1,none⟩),
    fun yy _=>yy=.int .u64 (x.a:Int),
    fun yy WW=>∃Az cz,yy=.slice Az (putN x.a).length cz∧Hid (OwnB WW wc.heap.size (.slice Az (putN x.a).length cz) (putN x.a)),
    fun yy WW=>RE W g WW yy (hd++putN x.a),
    fun yy _=>yy=.pointer (some ⟨g,2,none⟩),
    fun yy _=>yy=.int .u64 (x.b:Int),
    fun yy WW=>∃Az cz,yy=.slice Az (putN x.b).length cz∧Hid (OwnB WW wc.heap.size (.slice Az (putN x.b).length cz) (putN x.b))]) (by kernel_rfl) (by kernel_rfl) (by kernel_rfl) (by kernel_rfl) (by kernel_rfl) (by kernel_rfl) (by kernel_rfl) (by decide) rfl (by intro z hz;rw[List.mem_singleton]at hz;subst hz;exact(show (4:Nat)<8 by decide)) (by kernel_rfl) (no_stores (by kernel_rfl)) ?_ ?_
   ·refine⟨?_,?_,?_,?_,?_,?_,?_,?_,trivial⟩
    ·refine ObD.plain (by decide) rfl fun ρ W3 hk=>?_
     exact OpOut.move (.tmp 3) rfl ⟨Below.refl _ _,hk.old 3 (by decide)⟩
    ·refine ObD.plain (by decide) rfl fun ρ W3 hk=>?_
     have o1:ρ (.tmp 1)=.pointer (some ⟨g,0,none⟩):=hk.old 1 (by decide)
     exact OpOut.fieldAddr (x:=.tmp 1) rfl o1 (by go_simp) ⟨Below.refl _ _,rfl⟩
    ·refine ObD.plain (by decide) rfl fun ρ W3 hk=>?_
     have h1:=(hk.fact 1 75 (by decide) rfl).pure
     have hc:=(show RXV W3 g x A cl from ⟨(hk.below.block g HLG.out.1 HLG.out.2).trans HVC.out.blk⟩).cs.2.1
     exact OpOut.load (x:=.tmp 75) rfl h1 (by go_simp) ⟨Below.refl _ _,rfl⟩
    ·refine ObD.plain (by decide) rfl fun ρ W3 hk=>?_
     have h2:=(hk.fact 2 76 (by decide) rfl).pure
     refine OpOut.fn (args:=#[.int .u64 ((x.a:Nat):Int)]) rfl (hk.func _) (by simp[h2]) Tryz.func41 (by kernel_rfl) rfl ?_
     refine(refPut_any x.a W3 (by show _<_;omega)).mono ?_;rintro e w5 ⟨Az,cz,rfl,rz,hbz,hlz,hoz⟩
     exact⟨_,rfl,hbz.out,Az,cz,rfl,own_base hoz.out (fun q hq=>by have:=own_ge hoz.out q hq;have:=hk.below.size;omega)⟩
    ·refine ObD.first rfl rfl fun ρ W3 hk hk1=>?_
     have h0:=(hk1.fact 0 74 (by decide) rfl).pure
     obtain⟨wz,hwz,Az,cz,hz,oz⟩:=hk1.fact 3 77 (by decide) rfl
     have ozW:=own_grew oz.out hwz
     have HEW:=HE.out.step hk1.below
     obtain⟨v',w',hrun,ho2,hg2⟩:=run_append_any (P:=Tryz.prog) (w:=W3) (g+1) (ty:=34) u8_elem v3 hd.length (hd.map B) HEW.own W3.heap.size Az (putN x.a).length cz ((putN x.a).map B) (Reads.of_own ozW) (B_map_one _) hroom1 HEW.size
     exact OpOut.append rfl h0 hz hrun ⟨hg2.only,HEW.put (Below.refl _ _) (OwnB.app ho2) hg2⟩
    ·refine ObD.plain (by decide) rfl fun ρ W3 hk=>?_
     have o1:ρ (.tmp 1)=.pointer (some ⟨g,0,none⟩):=hk.old 1 (by decide)
     exact OpOut.fieldAddr (x:=.tmp 1) rfl o1 (by go_simp) ⟨Below.refl _ _,rfl⟩
    ·refine ObD.plain (by decide) rfl fun ρ W3 hk=>?_
     have h5:=(hk.fact 5 79 (by decide) rfl).pure
     have hc:=(show RXV W3 g x A cl from ⟨(hk.below.block g HLG.out.1 HLG.out.2).trans HVC.out.blk⟩).cs.2.2.1
     exact OpOut.load (x:=.tmp 79) rfl h5 (by go_simp) ⟨Below.refl _ _,rfl⟩
    ·refine ObD.plain (by decide) rfl fun ρ W3 hk=>?_
     have h6:=(hk.fact 6 80 (by decide) rfl).pure
     refine OpOut.fn (args:=#[.int .u64 ((x.b:Nat):Int)]) rfl (hk.func _) (by simp[h6]) Tryz.func41 (by kernel_rfl) rfl ?_
     refine(refPut_any x.b W3 (by show _<_;omega)).mono ?_;rintro e w5 ⟨Az,cz,rfl,rz,hbz,hlz,hoz⟩
     exact⟨_,rfl,hbz.out,Az,cz,rfl,own_base hoz.out (fun q hq=>by have:=own_ge hoz.out q hq;have:=hk.below.size;omega)⟩
   ·intro vs W4 hb4 hf hlast
    obtain⟨wz,hwz,hRE⟩:=hlast
    have HR4:=hide (RE.step hRE hwz)
    obtain⟨wy,hwy,Az,cz,hz,oz⟩:=hf 7 (by decide)
    have ozW:=own_only3 oz.out hwy (fun q hq hm=>by have h1:=own_ge oz.out q hq;have h2:=(HE.out.own.lt q (by simpa using hm)).2;omega)
    have rz:=hide (Reads.of_own ozW)
    clear hf hRE hwz hwy oz ozW hb4
    simp only[fillL]
    rw[hz]
    obtain⟨v5,hv5⟩:∃v5,vs 4=v5:=⟨_,rfl⟩
    rw[hv5]at HR4 ⊢
    generalize vs 0=y0,vs 1=y1,vs 2=y2,vs 3=y3,vs 5=y5,vs 6=y6
    clear hz hv5
    go_frame
    have hsz4:=HR4.out.size
    have HO4:=hide HR4.out.own
    refine wpList_append_any rfl (.tmp 78) (.tmp 81) rfl (g+1) u8_elem v5 (hd++putN x.a).length ((hd++putN x.a).map B) rfl HO4.out W4.heap.size Az (putN x.b).length cz ((putN x.b).map B) rfl rz.out (B_map_one _) hroom2 hsz4 ?_
    intro v6 w6 ho6 hg6
    have HE6:Hid (RE W g w6 v6 (hd++putN x.a++putN x.b)):=HR4.out.put (Below.refl _ _) (OwnB.app ho6) hg6
    clear ho6 hg6
    refine tail_of_list rfl ?_
    obtain⟨l0,l1,l2,l3,l4⟩:=(HV.out.below HE6.out.bel (by omega)).cs
    go_wp2_with fail
    go_ret
    exact RE.fin HG.out HB.out HE6.out (by rw[HQ.out];simp[bodyL])
  ·as_aux_lemma =>
   have HP1:=hide (refPut_any x.a wc (by show _<_;omega))
   have hlb1:=putN_length x.a
   have hroom1:Room (hd).length (putN x.a).length 1:=room_of (by first|omega|(simp only[List.length_append];omega)) (by omega)
   go_wp2_with fail
   refine HP1.out.mono ?_;rintro e wp1 ⟨Ap1,cp1,rfl,rp1,hb1,hl1,ho1⟩
   clear HP1 l0 l1 l2 l3 l4
   have hown1:=hide (own_grew HE.out.own hb1.out)
   have hsz1:g+1≤wp1.heap.size:=Nat.le_trans HE.out.size hb1.out.size
   go_wp2_with (at_builtin;refine wpList_append_any rfl _ _ rfl (g+1) u8_elem _ (hd).length ((hd).map B) rfl hown1.out wp1.heap.size Ap1 (putN x.a).length cp1 ((putN x.a).map B) rfl rp1.out (B_map_one _) hroom1 hsz1 ?_;intro vq1 wq1 hoq hgq;have HE1:Hid (RE W g wq1 vq1 (hd++(putN x.a))):=HE.out.put hb1.out (OwnB.app hoq) hgq;clear hoq hgq;obtain⟨l0,l1,l2,l3,l4⟩:=(HV.out.below HE1.out.bel (by omega)).cs)
   go_ret
   exact RE.fin HG.out HB.out HE1.out (by rw[HQ.out];simp[bodyL])
  ·as_aux_lemma =>
   have HP1:=hide (refPut_any x.a wc (by show _<_;omega))
   have hlb1:=putN_length x.a
   have hroom1:Room (hd).length (putN x.a).length 1:=room_of (by first|omega|(simp only[List.length_append];omega)) (by omega)
   go_wp2_with fail
   refine HP1.out.mono ?_;rintro e wp1 ⟨Ap1,cp1,rfl,rp1,hb1,hl1,ho1⟩
   clear HP1 l0 l1 l2 l3 l4
   have hown1:=hide (own_grew HE.out.own hb1.out)
   have hsz1:g+1≤wp1.heap.size:=Nat.le_trans HE.out.size hb1.out.size
   go_wp2_with (at_builtin;refine wpList_append_any rfl _ _ rfl (g+1) u8_elem _ (hd).length ((hd).map B) rfl hown1.out wp1.heap.size Ap1 (putN x.a).length cp1 ((putN x.a).map B) rfl rp1.out (B_map_one _) hroom1 hsz1 ?_;intro vq1 wq1 hoq hgq;have HE1:Hid (RE W g wq1 vq1 (hd++(putN x.a))):=HE.out.put hb1.out (OwnB.app hoq) hgq;clear hoq hgq;obtain⟨l0,l1,l2,l3,l4⟩:=(HV.out.below HE1.out.bel (by omega)).cs)
   go_ret
   exact RE.fin HG.out HB.out HE1.out (by rw[HQ.out];simp[bodyL])
  ·as_aux_lemma =>
   have hr8:=HRF.out
   simp[rightF,small]at hr8
   obtain⟨hs1,hs2,hs3,hs4⟩:=hr8
   obtain⟨al,hal⟩:∃al:Nat,x.al=(al:Int):=⟨x.al.toNat,by omega⟩
   have HAL:=hide hal
   have HALN:Hid (x.al.toNat=al):=by show _=_;rw[hal];rfl
   have HAL31:Hid (al≤31):=by show al≤31;omega
   have hal31:=HAL31.out
   rw[hal]at l3
   have hwal:(al:Int)%18446744073709551616=(al:Int):=by omega
   clear hal hs2 hs3 hs4
   by_cases ha0:x.a=0
   ·rw[ha0]at l1
    have HA0:=hide ha0
    clear ha0
    have HP1:=hide (refPut_any al wc (by show _<_;omega))
    have hlb1:=putN_length al
    have hroom1:Room (hd).length (putN al).length 1:=room_of (by first|omega|(simp only[List.length_append];omega)) (by omega)
    go_wp2_with fail
    refine HP1.out.mono ?_;rintro e wp1 ⟨Ap1,cp1,rfl,rp1,hb1,hl1,ho1⟩
    clear HP1 l0 l1 l2 l3 l4
    have hown1:=hide (own_grew HE.out.own hb1.out)
    have hsz1:g+1≤wp1.heap.size:=Nat.le_trans HE.out.size hb1.out.size
    go_wp2_with (at_builtin;refine wpList_append_any rfl _ _ rfl (g+1) u8_elem _ (hd).length ((hd).map B) rfl hown1.out wp1.heap.size Ap1 (putN al).length cp1 ((putN al).map B) rfl rp1.out (B_map_one _) hroom1 hsz1 ?_;intro vq1 wq1 hoq hgq;have HE1:Hid (RE W g wq1 vq1 (hd++(putN al))):=HE.out.put hb1.out (OwnB.app hoq) hgq;clear hoq hgq;obtain⟨l0,l1,l2,l3,l4⟩:=(HV.out.below HE1.out.bel (by omega)).cs)
    have HP2:=hide (refPut_any x.b wq1 (by show _<_;omega))
    have hlb2:=putN_length x.b
    have hroom2:Room (hd++(putN al)).length (putN x.b).length 1:=room_of (by first|omega|(simp only[List.length_append];omega)) (by omega)
    go_wp2_with fail
    refine HP2.out.mono ?_;rintro e wp2 ⟨Ap2,cp2,rfl,rp2,hb2,hl2,ho2⟩
    clear HP2 l0 l1 l2 l3 l4
    have hown2:=hide (own_grew HE1.out.own hb2.out)
    have hsz2:g+1≤wp2.heap.size:=Nat.le_trans HE1.out.size hb2.out.size
    go_wp2_with (at_builtin;refine wpList_append_any rfl _ _ rfl (g+1) u8_elem _ (hd++(putN al)).length ((hd++(putN al)).map B) rfl hown2.out wp2.heap.size Ap2 (putN x.b).length cp2 ((putN x.b).map B) rfl rp2.out (B_map_one _) hroom2 hsz2 ?_;intro vq2 wq2 hoq hgq;have HE2:Hid (RE W g wq2 vq2 (hd++(putN al)++(putN x.b))):=HE1.out.put hb2.out (OwnB.app hoq) hgq;clear hoq hgq;obtain⟨l0,l1,l2,l3,l4⟩:=(HV.out.below HE2.out.bel (by omega)).cs)
    go_ret
    exact RE.fin HG.out HB.out HE2.out (by rw[HQ.out];simp[bodyL,HA0.out,HALN.out])
   ·have hz:((x.a:Int)==0)=false:=by simp;omega
    have HA0:=hide ha0
    clear ha0
    have HLG:Hid (g<wc.heap.size∧g∉v3.ownBlock.toList):=⟨by have:=HE.out.size;omega,fun hm=>by have:=own_ge HE.out.own g (by simpa using hm);omega⟩
    have HVC:=hide (HV.out.below HE.out.bel (by omega))
    have hlb1:=putN_length (al+64)
    have hlb2:=putN_length x.a
    have hroom1:Room hd.length (putN (al+64)).length 1:=room_of (by omega) (by omega)
    have hroom2:Room (hd++putN (al+64)).length (putN x.a).length 1:=room_of (by simp only[List.length_append];omega) (by omega)
    go_upto_region 26 with fail
    clear l0 l1 l2 l3 l4
    refine wp_region_two (l:=[_,_,_,_,_,_,_,_,_,_]) (o1:=_) (o2:=_) grew_ext (Only.ext v3.ownBlock.toList) (fun _ _ h=>Only.of_below h) [6] 6 (factsOf [fun yy _=>yy=v3,
     fun yy _=>yy=.pointer (some ⟨g,3,none⟩),
     fun yy _=>yy=.int .i64 (al:Int),
     fun yy _=>yy=.int .u64 (al:Int),
     fun yy _=>yy=.int .u64 ((al+64:Nat):Int),
     fun yy WW=>∃Az cz,yy=.slice Az (putN (al+64)).length cz∧Hid (OwnB WW wc.heap.size (.slice Az (putN (al+64)).length cz) (putN (al+64))),
     fun yy WW=>RE W g WW yy (hd++putN (al+64)),
     fun yy _=>yy=.pointer (some ⟨g,1,none⟩),
     fun yy _=>yy=.int .u64 (x.a:Int),
     fun yy WW=>∃Az cz,yy=.slice Az (putN x.a).length cz∧Hid (OwnB WW wc.heap.size (.slice Az (putN x.a).length cz) (putN x.a))]) (by kernel_rfl) (by kernel_rfl) (by kernel_rfl) (by kernel_rfl) (by kernel_rfl) (by kernel_rfl) (by kernel_rfl) (by decide) rfl (by intro z hz;rw[List.mem_singleton]at hz;subst hz;exact(show (6:Nat)<10 by decide)) (by kernel_rfl) (no_stores (by kernel_rfl)) ?_ ?_
    ·refine⟨?_,?_,?_,?_,?_,?_,?_,?_,?_,?_,trivial⟩
     ·refine ObD.plain (by decide) rfl fun ρ W3 hk=>?_
      exact OpOut.move (.tmp 3) rfl ⟨Below.refl _ _,hk.old 3 (by decide)⟩
     ·refine ObD.plain (by decide) rfl fun ρ W3 hk=>?_
      have o1:ρ (.tmp 1)=.pointer (some ⟨g,0,none⟩):=hk.old 1 (by decide)
      exact OpOut.fieldAddr (x:=.tmp 1) rfl o1 (by go_simp) ⟨Below.refl _ _,rfl⟩
     ·refine ObD.plain (by decide) rfl fun ρ W3 hk=>?_
      have h1:=(hk.fact 1 95 (by decide) rfl).pure
      have hc:=(show RXV W3 g x A cl from ⟨(hk.below.block g HLG.out.1 HLG.out.2).trans HVC.out.blk⟩).cs.2.2.2.1
      rw[HAL.out]at hc
      exact OpOut.load (x:=.tmp 95) rfl h1 (by go_simp) ⟨Below.refl _ _,rfl⟩
     ·refine ObD.plain (by decide) rfl fun ρ W3 hk=>?_
      have h2:=(hk.fact 2 96 (by decide) rfl).pure
      exact OpOut.conv (x:=.tmp 96) rfl (by rw[h2];exact run_al al HAL31.out W3) ⟨Below.refl _ _,rfl⟩
     ·refine ObD.plain (by decide) rfl fun ρ W3 hk=>?_
      have h3:=(hk.fact 3 97 (by decide) rfl).pure
      exact OpOut.bin (x:=.tmp 97) (y:=.const (.int .u64 64)) (v:=.int .u64 ((al+64:Nat):Int)) rfl (by rw[h3,hk.const];go_simp) (by rw[h3,hk.const];exact run_al64 al HAL31.out W3) ⟨Below.refl _ _,rfl⟩
     ·refine ObD.plain (by decide) rfl fun ρ W3 hk=>?_
      have h4:=(hk.fact 4 98 (by decide) rfl).pure
      refine OpOut.fn (args:=#[.int .u64 (((al+64):Nat):Int)]) rfl (hk.func _) (by simp[h4]) Tryz.func41 (by kernel_rfl) rfl ?_
      refine(refPut_any (al+64) W3 (by show _<_;omega)).mono ?_;rintro e w5 ⟨Az,cz,rfl,rz,hbz,hlz,hoz⟩
      exact⟨_,rfl,hbz.out,Az,cz,rfl,own_base hoz.out (fun q hq=>by have:=own_ge hoz.out q hq;have:=hk.below.size;omega)⟩
     ·refine ObD.first rfl rfl fun ρ W3 hk hk1=>?_
      have h0:=(hk1.fact 0 94 (by decide) rfl).pure
      obtain⟨wz,hwz,Az,cz,hz,oz⟩:=hk1.fact 5 99 (by decide) rfl
      have ozW:=own_grew oz.out hwz
      have HEW:=HE.out.step hk1.below
      obtain⟨v',w',hrun,ho2,hg2⟩:=run_append_any (P:=Tryz.prog) (w:=W3) (g+1) (ty:=34) u8_elem v3 hd.length (hd.map B) HEW.own W3.heap.size Az (putN (al+64)).length cz ((putN (al+64)).map B) (Reads.of_own ozW) (B_map_one _) hroom1 HEW.size
      exact OpOut.append rfl h0 hz hrun ⟨hg2.only,HEW.put (Below.refl _ _) (OwnB.app ho2) hg2⟩
     ·refine ObD.plain (by decide) rfl fun ρ W3 hk=>?_
      have o1:ρ (.tmp 1)=.pointer (some ⟨g,0,none⟩):=hk.old 1 (by decide)
      exact OpOut.fieldAddr (x:=.tmp 1) rfl o1 (by go_simp) ⟨Below.refl _ _,rfl⟩
     ·refine ObD.plain (by decide) rfl fun ρ W3 hk=>?_
      have h7:=(hk.fact 7 101 (by decide) rfl).pure
      have hc:=(show RXV W3 g x A cl from ⟨(hk.below.block g HLG.out.1 HLG.out.2).trans HVC.out.blk⟩).cs.2.1
      exact OpOut.load (x:=.tmp 101) rfl h7 (by go_simp) ⟨Below.refl _ _,rfl⟩
     ·refine ObD.plain (by decide) rfl fun ρ W3 hk=>?_
      have h8:=(hk.fact 8 102 (by decide) rfl).pure
      refine OpOut.fn (args:=#[.int .u64 ((x.a:Nat):Int)]) rfl (hk.func _) (by simp[h8]) Tryz.func41 (by kernel_rfl) rfl ?_
      refine(refPut_any x.a W3 (by show _<_;omega)).mono ?_;rintro e w5 ⟨Az,cz,rfl,rz,hbz,hlz,hoz⟩
      exact⟨_,rfl,hbz.out,Az,cz,rfl,own_base hoz.out (fun q hq=>by have:=own_ge hoz.out q hq;have:=hk.below.size;omega)⟩
    ·intro vs W4 hb4 hf hlast
     obtain⟨wz,hwz,hRE⟩:=hlast
     have HR4:=hide (RE.step hRE hwz)
     obtain⟨wy,hwy,Az,cz,hz,oz⟩:=hf 9 (by decide)
     have ozW:=own_only3 oz.out hwy (fun q hq hm=>by have h1:=own_ge oz.out q hq;have h2:=(HE.out.own.lt q (by simpa using hm)).2;omega)
     have rz:=hide (Reads.of_own ozW)
     clear hf hRE hwz hwy oz ozW hb4
     simp only[fillL]
     rw[hz]
     obtain⟨v5,hv5⟩:∃v5,vs 6=v5:=⟨_,rfl⟩
     rw[hv5]at HR4 ⊢
     generalize vs 0=y0,vs 1=y1,vs 2=y2,vs 3=y3,vs 4=y4,vs 5=y5,vs 7=y7,vs 8=y8
     clear hz hv5
     go_frame
     have hsz4:=HR4.out.size
     have HO4:=hide HR4.out.own
     refine wpList_append_any rfl (.tmp 100) (.tmp 103) rfl (g+1) u8_elem v5 (hd++putN (al+64)).length ((hd++putN (al+64)).map B) rfl HO4.out W4.heap.size Az (putN x.a).length cz ((putN x.a).map B) rfl rz.out (B_map_one _) hroom2 hsz4 ?_
     intro v6 w6 ho6 hg6
     have HE6:Hid (RE W g w6 v6 (hd++putN (al+64)++putN x.a)):=HR4.out.put (Below.refl _ _) (OwnB.app ho6) hg6
     clear ho6 hg6
     refine tail_of_list rfl ?_
     obtain⟨l0,l1,l2,l3,l4⟩:=(HV.out.below HE6.out.bel (by omega)).cs
     have HP7:=hide (refPut_any x.b w6 (by show _<_;omega))
     have hlb7:=putN_length x.b
     have hroom7:Room (hd++putN (al+64)++putN x.a).length (putN x.b).length 1:=room_of (by first|omega|(simp only[List.length_append];omega)) (by omega)
     go_wp2_with fail
     refine HP7.out.mono ?_;rintro e wp7 ⟨Ap7,cp7,rfl,rp7,hb7,hl7,ho7⟩
     clear HP7 l0 l1 l2 l3 l4
     have hown7:=hide (own_grew HE6.out.own hb7.out)
     have hsz7:g+1≤wp7.heap.size:=Nat.le_trans HE6.out.size hb7.out.size
     go_wp2_with (at_builtin;refine wpList_append_any rfl _ _ rfl (g+1) u8_elem _ (hd++putN (al+64)++putN x.a).length ((hd++putN (al+64)++putN x.a).map B) rfl hown7.out wp7.heap.size Ap7 (putN x.b).length cp7 ((putN x.b).map B) rfl rp7.out (B_map_one _) hroom7 hsz7 ?_;intro vq7 wq7 hoq hgq;have HE7:Hid (RE W g wq7 vq7 (hd++putN (al+64)++putN x.a++(putN x.b))):=HE6.out.put hb7.out (OwnB.app hoq) hgq;clear hoq hgq;obtain⟨l0,l1,l2,l3,l4⟩:=(HV.out.below HE7.out.bel (by omega)).cs)
     go_ret
     exact RE.fin HG.out HB.out HE7.out (by rw[HQ.out];simp[bodyL,HA0.out,HALN.out])
  ·as_aux_lemma =>
   have HP1:=hide (refPut_any x.a wc (by show _<_;omega))
   have hlb1:=putN_length x.a
   have hroom1:Room (hd).length (putN x.a).length 1:=room_of (by first|omega|(simp only[List.length_append];omega)) (by omega)
   go_wp2_with fail
   refine HP1.out.mono ?_;rintro e wp1 ⟨Ap1,cp1,rfl,rp1,hb1,hl1,ho1⟩
   clear HP1 l0 l1 l2 l3 l4
   have hown1:=hide (own_grew HE.out.own hb1.out)
   have hsz1:g+1≤wp1.heap.size:=Nat.le_trans HE.out.size hb1.out.size
   go_wp2_with (at_builtin;refine wpList_append_any rfl _ _ rfl (g+1) u8_elem _ (hd).length ((hd).map B) rfl hown1.out wp1.heap.size Ap1 (putN x.a).length cp1 ((putN x.a).map B) rfl rp1.out (B_map_one _) hroom1 hsz1 ?_;intro vq1 wq1 hoq hgq;have HE1:Hid (RE W g wq1 vq1 (hd++(putN x.a))):=HE.out.put hb1.out (OwnB.app hoq) hgq;clear hoq hgq;obtain⟨l0,l1,l2,l3,l4⟩:=(HV.out.below HE1.out.bel (by omega)).cs)
   go_ret
   exact RE.fin HG.out HB.out HE1.out (by rw[HQ.out];simp[bodyL])
  ·as_aux_lemma =>
   have HLG:Hid (g<wc.heap.size∧g∉v3.ownBlock.toList):=⟨by have:=HE.out.size;omega,fun hm=>by have:=own_ge HE.out.own g (by simpa using hm);omega⟩
   have HVC:=hide (HV.out.below HE.out.bel (by omega))
   have hlb1:=putN_length x.a
   have hlb2:=putN_length x.b
   have hroom1:Room hd.length (putN x.a).length 1:=room_of (by omega) (by omega)
   have hroom2:Room (hd++putN x.a).length (putN x.b).length 1:=room_of (by simp only[List.length_append];omega) (by omega)
   go_upto_region 22 with fail
   clear l0 l1 l2 l3 l4
   refine wp_region_two (l:=[_,_,_,_,_,_,_,_]) (o1:=_) (o2:=_) grew_ext (Only.ext v3.ownBlock.toList) (fun _ _ h=>Only.of_below h) [4] 4 (factsOf [fun yy _=>yy=v3,
    fun yy _=>yy=.pointer (some ⟨g,1,none⟩),
    fun yy _=>yy=.int .u64 (x.a:Int),
    fun yy WW=>∃Az cz,yy=.slice Az (putN x.a).length cz∧Hid (OwnB WW wc.heap.size (.slice Az (putN x.a).length cz) (putN x.a)),
    fun yy WW=>RE W g WW yy (hd++putN x.a),
    fun yy _=>yy=.pointer (some ⟨g,2,none⟩),
    fun yy _=>yy=.int .u64 (x.b:Int),
    fun yy WW=>∃Az cz,yy=.slice Az (putN x.b).length cz∧Hid (OwnB WW wc.heap.size (.slice Az (putN x.b).length cz) (putN x.b))]) (by kernel_rfl) (by kernel_rfl) (by kernel_rfl) (by kernel_rfl) (by kernel_rfl) (by kernel_rfl) (by kernel_rfl) (by decide) rfl (by intro z hz;rw[List.mem_singleton]at hz;subst hz;exact(show (4:Nat)<8 by decide)) (by kernel_rfl) (no_stores (by kernel_rfl)) ?_ ?_
   ·refine⟨?_,?_,?_,?_,?_,?_,?_,?_,trivial⟩
    ·refine ObD.plain (by decide) rfl fun ρ W3 hk=>?_
     exact OpOut.move (.tmp 3) rfl ⟨Below.refl _ _,hk.old 3 (by decide)⟩
    ·refine ObD.plain (by decide) rfl fun ρ W3 hk=>?_
     have o1:ρ (.tmp 1)=.pointer (some ⟨g,0,none⟩):=hk.old 1 (by decide)
     exact OpOut.fieldAddr (x:=.tmp 1) rfl o1 (by go_simp) ⟨Below.refl _ _,rfl⟩
    ·refine ObD.plain (by decide) rfl fun ρ W3 hk=>?_
     have h1:=(hk.fact 1 75 (by decide) rfl).pure
     have hc:=(show RXV W3 g x A cl from ⟨(hk.below.block g HLG.out.1 HLG.out.2).trans HVC.out.blk⟩).cs.2.1
     exact OpOut.load (x:=.tmp 75) rfl h1 (by go_simp) ⟨Below.refl _ _,rfl⟩
    ·refine ObD.plain (by decide) rfl fun ρ W3 hk=>?_
     have h2:=(hk.fact 2 76 (by decide) rfl).pure
     refine OpOut.fn (args:=#[.int .u64 ((x.a:Nat):Int)]) rfl (hk.func _) (by simp[h2]) Tryz.func41 (by kernel_rfl) rfl ?_
     refine(refPut_any x.a W3 (by show _<_;omega)).mono ?_;rintro e w5 ⟨Az,cz,rfl,rz,hbz,hlz,hoz⟩
     exact⟨_,rfl,hbz.out,Az,cz,rfl,own_base hoz.out (fun q hq=>by have:=own_ge hoz.out q hq;have:=hk.below.size;omega)⟩
    ·refine ObD.first rfl rfl fun ρ W3 hk hk1=>?_
     have h0:=(hk1.fact 0 74 (by decide) rfl).pure
     obtain⟨wz,hwz,Az,cz,hz,oz⟩:=hk1.fact 3 77 (by decide) rfl
     have ozW:=own_grew oz.out hwz
     have HEW:=HE.out.step hk1.below
     obtain⟨v',w',hrun,ho2,hg2⟩:=run_append_any (P:=Tryz.prog) (w:=W3) (g+1) (ty:=34) u8_elem v3 hd.length (hd.map B) HEW.own W3.heap.size Az (putN x.a).length cz ((putN x.a).map B) (Reads.of_own ozW) (B_map_one _) hroom1 HEW.size
     exact OpOut.append rfl h0 hz hrun ⟨hg2.only,HEW.put (Below.refl _ _) (OwnB.app ho2) hg2⟩
    ·refine ObD.plain (by decide) rfl fun ρ W3 hk=>?_
     have o1:ρ (.tmp 1)=.pointer (some ⟨g,0,none⟩):=hk.old 1 (by decide)
     exact OpOut.fieldAddr (x:=.tmp 1) rfl o1 (by go_simp) ⟨Below.refl _ _,rfl⟩
    ·refine ObD.plain (by decide) rfl fun ρ W3 hk=>?_
     have h5:=(hk.fact 5 79 (by decide) rfl).pure
     have hc:=(show RXV W3 g x A cl from ⟨(hk.below.block g HLG.out.1 HLG.out.2).trans HVC.out.blk⟩).cs.2.2.1
     exact OpOut.load (x:=.tmp 79) rfl h5 (by go_simp) ⟨Below.refl _ _,rfl⟩
    ·refine ObD.plain (by decide) rfl fun ρ W3 hk=>?_
     have h6:=(hk.fact 6 80 (by decide) rfl).pure
     refine OpOut.fn (args:=#[.int .u64 ((x.b:Nat):Int)]) rfl (hk.func _) (by simp[h6]) Tryz.func41 (by kernel_rfl) rfl ?_
     refine(refPut_any x.b W3 (by show _<_;omega)).mono ?_;rintro e w5 ⟨Az,cz,rfl,rz,hbz,hlz,hoz⟩
     exact⟨_,rfl,hbz.out,Az,cz,rfl,own_base hoz.out (fun q hq=>by have:=own_ge hoz.out q hq;have:=hk.below.size;omega)⟩
   ·intro vs W4 hb4 hf hlast
    obtain⟨wz,hwz,hRE⟩:=hlast
    have HR4:=hide (RE.step hRE hwz)
    obtain⟨wy,hwy,Az,cz,hz,oz⟩:=hf 7 (by decide)
    have ozW:=own_only3 oz.out hwy (fun q hq hm=>by have h1:=own_ge oz.out q hq;have h2:=(HE.out.own.lt q (by simpa using hm)).2;omega)
    have rz:=hide (Reads.of_own ozW)
    clear hf hRE hwz hwy oz ozW hb4
    simp only[fillL]
    rw[hz]
    obtain⟨v5,hv5⟩:∃v5,vs 4=v5:=⟨_,rfl⟩
    rw[hv5]at HR4 ⊢
    generalize vs 0=y0,vs 1=y1,vs 2=y2,vs 3=y3,vs 5=y5,vs 6=y6
    clear hz hv5
    go_frame
    have hsz4:=HR4.out.size
    have HO4:=hide HR4.out.own
    refine wpList_append_any rfl (.tmp 78) (.tmp 81) rfl (g+1) u8_elem v5 (hd++putN x.a).length ((hd++putN x.a).map B) rfl HO4.out W4.heap.size Az (putN x.b).length cz ((putN x.b).map B) rfl rz.out (B_map_one _) hroom2 hsz4 ?_
    intro v6 w6 ho6 hg6
    have HE6:Hid (RE W g w6 v6 (hd++putN x.a++putN x.b)):=HR4.out.put (Below.refl _ _) (OwnB.app ho6) hg6
    clear ho6 hg6
    refine tail_of_list rfl ?_
    obtain⟨l0,l1,l2,l3,l4⟩:=(HV.out.below HE6.out.bel (by omega)).cs
    go_wp2_with fail
    go_ret
    exact RE.fin HG.out HB.out HE6.out (by rw[HQ.out];simp[bodyL])
  ·as_aux_lemma =>
   have hsm:=HRF.out
   simp[rightF,small]at hsm
   rcases HF11.out rfl with hc|hc
   ·rw[hc]at l0
    have HC:=hide hc
    have hsa:x.a≤4294967295:=by omega
    clear hc hsm
    have hw:wrap64 (x.a:Int)=(x.a:Int):=by unfold wrap64;omega
    by_cases h31:2147483648≤x.a
    ·have hK:Hid (constI false x.a=(x.a:Int)-4294967296):=by show _=_;unfold constI;simp only[Bool.false_eq_true,if_false];split<;>omega
     have hw2:wrap64 ((x.a:Int)-4294967296)=(x.a:Int)-4294967296:=by unfold wrap64;omega
     have fx:decide ((2147483648:Int)≤(x.a:Int))=true:=by simp;omega
     have HBD:Hid (-9223372036854775808≤(x.a:Int)-4294967296∧(x.a:Int)-4294967296≤9223372036854775807):=by show _∧_;omega
     clear h31 hsa
     have HP1:=hide (refPutSigned_any ((x.a:Int)-4294967296) wc HBD.out)
     have hlb1:=putSN_lenB ((x.a:Int)-4294967296) HBD.out
     have hroom1:Room (hd).length (putSN ((x.a:Int)-4294967296)).length 1:=room_of (by first|omega|(simp only[List.length_append];omega)) (by omega)
     go_wp2_with fail
     refine HP1.out.mono ?_;rintro e wp1 ⟨Ap1,cp1,rfl,rp1,hb1,hl1,ho1⟩
     clear HP1 l0 l1 l2 l3 l4
     have hown1:=hide (own_grew HE.out.own hb1.out)
     have hsz1:g+1≤wp1.heap.size:=Nat.le_trans HE.out.size hb1.out.size
     go_wp2_with (at_builtin;refine wpList_append_any rfl _ _ rfl (g+1) u8_elem _ (hd).length ((hd).map B) rfl hown1.out wp1.heap.size Ap1 (putSN ((x.a:Int)-4294967296)).length cp1 ((putSN ((x.a:Int)-4294967296)).map B) rfl rp1.out (B_map_one _) hroom1 hsz1 ?_;intro vq1 wq1 hoq hgq;have HE1:Hid (RE W g wq1 vq1 (hd++(putSN ((x.a:Int)-4294967296)))):=HE.out.put hb1.out (OwnB.app hoq) hgq;clear hoq hgq;obtain⟨l0,l1,l2,l3,l4⟩:=(HV.out.below HE1.out.bel (by omega)).cs)
     go_ret
     exact RE.fin HG.out HB.out HE1.out (by rw[HQ.out];simp[bodyL,HC.out,hK.out])
    ·have hK:Hid (constI false x.a=(x.a:Int)):=by show _=_;unfold constI;simp only[Bool.false_eq_true,if_false];split<;>omega
     have fx:decide ((2147483648:Int)≤(x.a:Int))=false:=by simp;omega
     have HBD:Hid (-9223372036854775808≤(x.a:Int)∧(x.a:Int)≤9223372036854775807):=by show _∧_;omega
     clear h31 hsa
     have HP1:=hide (refPutSigned_any (x.a:Int) wc HBD.out)
     have hlb1:=putSN_lenB (x.a:Int) HBD.out
     have hroom1:Room (hd).length (putSN (x.a:Int)).length 1:=room_of (by first|omega|(simp only[List.length_append];omega)) (by omega)
     go_wp2_with fail
     refine HP1.out.mono ?_;rintro e wp1 ⟨Ap1,cp1,rfl,rp1,hb1,hl1,ho1⟩
     clear HP1 l0 l1 l2 l3 l4
     have hown1:=hide (own_grew HE.out.own hb1.out)
     have hsz1:g+1≤wp1.heap.size:=Nat.le_trans HE.out.size hb1.out.size
     go_wp2_with (at_builtin;refine wpList_append_any rfl _ _ rfl (g+1) u8_elem _ (hd).length ((hd).map B) rfl hown1.out wp1.heap.size Ap1 (putSN (x.a:Int)).length cp1 ((putSN (x.a:Int)).map B) rfl rp1.out (B_map_one _) hroom1 hsz1 ?_;intro vq1 wq1 hoq hgq;have HE1:Hid (RE W g wq1 vq1 (hd++(putSN (x.a:Int)))):=HE.out.put hb1.out (OwnB.app hoq) hgq;clear hoq hgq;obtain⟨l0,l1,l2,l3,l4⟩:=(HV.out.below HE1.out.bel (by omega)).cs)
     go_ret
     exact RE.fin HG.out HB.out HE1.out (by rw[HQ.out];simp[bodyL,HC.out,hK.out])
   ·rw[hc]at l0
    have HC:=hide hc
    have hK:Hid (constI true x.a=wrap64 (x.a:Int)):=by show _=_;unfold constI wrap64;simp only[if_true];split<;>omega
    have hwb:-9223372036854775808≤wrap64 (x.a:Int)∧wrap64 (x.a:Int)≤9223372036854775807:=by unfold wrap64;omega
    clear hc hsm
    have HP1:=hide (refPutSigned_any (wrap64 (x.a:Int)) wc hwb)
    have hlb1:=putSN_lenB (wrap64 (x.a:Int)) hwb
    have hroom1:Room (hd).length (putSN (wrap64 (x.a:Int))).length 1:=room_of (by first|omega|(simp only[List.length_append];omega)) (by omega)
    go_wp2_with fail
    refine HP1.out.mono ?_;rintro e wp1 ⟨Ap1,cp1,rfl,rp1,hb1,hl1,ho1⟩
    clear HP1 l0 l1 l2 l3 l4
    have hown1:=hide (own_grew HE.out.own hb1.out)
    have hsz1:g+1≤wp1.heap.size:=Nat.le_trans HE.out.size hb1.out.size
    go_wp2_with (at_builtin;refine wpList_append_any rfl _ _ rfl (g+1) u8_elem _ (hd).length ((hd).map B) rfl hown1.out wp1.heap.size Ap1 (putSN (wrap64 (x.a:Int))).length cp1 ((putSN (wrap64 (x.a:Int))).map B) rfl rp1.out (B_map_one _) hroom1 hsz1 ?_;intro vq1 wq1 hoq hgq;have HE1:Hid (RE W g wq1 vq1 (hd++(putSN (wrap64 (x.a:Int))))):=HE.out.put hb1.out (OwnB.app hoq) hgq;clear hoq hgq;obtain⟨l0,l1,l2,l3,l4⟩:=(HV.out.below HE1.out.bel (by omega)).cs)
    go_ret
    exact RE.fin HG.out HB.out HE1.out (by rw[HQ.out];simp[bodyL,HC.out,hK.out])
end Go.Proofs.YtpcanheghenhdaaGreat
