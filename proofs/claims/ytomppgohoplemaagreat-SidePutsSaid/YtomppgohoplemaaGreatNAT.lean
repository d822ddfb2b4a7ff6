import Derived.Test.YtomppgohoplemaaGreatNAS
set_option linter.unusedVariables false
namespace Go.Proofs.YtomppgohoplemaaGreat
open Go.RowKit
theorem puts_lit (base:Nat) (v:Value) (xs:List UInt8) (ls:List Nat) (w:World) (hown:Hid (OwnB w base v xs)) (hls:Hid (∀n∈ls,n<2^64)) (hb:base≤w.heap.size) (hl:xs.length+10*ls.length≤900000) :
  Calls Tryz.prog 103 #[v,.slice (some ⟨w.heap.size,0,none⟩) ls.length ls.length] (w.alloc (.cells (ls.map U).toArray 66)) fun e w'=>∃v',e=.returned v'∧Hid (OwnB w' base v' (xs++ls.flatMap putN))∧Hid (Grows w w' v v'):=by
 refine(puts_any base v xs (some ⟨w.heap.size,0,none⟩) ls.length ls (w.alloc (.cells (ls.map U).toArray 66)) (own_alloc hown.out _) ?_ ?_ hls (by simp;omega) hl).mono ?_
 ·exact(Reads.of_new w (ls.map U) 66 ls.length (by simp)).more (by simp)
 ·show _→∀ad q,_
  intro _ ad q hA hq
  injection hA with hA
  subst hA
  have:=own_lt hown.out q hq
  simp only
  omega
 ·rintro e w' ⟨v',h1,h2,h3⟩
  exact⟨v',h1,h2,h3.alloc_first⟩
set_option maxHeartbeats 800000 in
theorem mem_any (x:XI) (A:Option Addr) (cl:Nat) (base:Nat) (v:Value) (xs:List UInt8) (w:World) (hx:Hid x.In) (h0:0≤x.al) (h31:x.al≤31) (hown:Hid (OwnB w base v xs)) (hb:base≤w.heap.size) (hl:xs.length≤100000) :
  Calls Tryz.prog 104 #[.agg #[.int .i64 x.code,.int .u64 (x.a:Int),.int .u64 (x.b:Int),.int .i64 x.al,.slice A x.l.length cl],v] w fun e w'=>∃v',e=.returned v'∧Hid (OwnB w' base v' (xs++memL x))∧Hid (Grows w w' v v'):=by
 obtain⟨code,a,b,al,l⟩:=x
 obtain⟨n,rfl⟩:∃n:Nat,al=n:=⟨al.toNat,by simp only at h0;omega⟩
 have ha64:=hx.out.a
 have hb64:=hx.out.b
 simp only at ha64 hb64 h31 h0 ⊢
 have hn31:n≤31:=by omega
 obtain⟨W,hW⟩:∃W,w.alloc (.cells #[.int .i64 code,.int .u64 (a:Int),.int .u64 (b:Int),.int .i64 (n:Int),.slice A l.length cl] 131)=W:=⟨_,rfl⟩
 obtain⟨g,hg⟩:∃g,w.heap.size=g:=⟨_,rfl⟩
 have hv:XV W g ⟨code,a,b,n,l⟩ A cl:=by rw[←hW,←hg];exact xv_new w ⟨code,a,b,n,l⟩ A cl
 have hgW:base≤W.heap.size:=by have:=blk_lt hv.blk;omega
 have ho1:Hid (OwnB W base v xs):=by show OwnB _ _ _ _;rw[←hW];exact own_alloc hown.out _
 have hg1:Hid (∀w' v',Grows W w' v v'→Grows w w' v v'):=by show ∀w' v',_;intro w' v' h;rw[←hW]at h;exact h.alloc_first
 obtain⟨l0,l1,l2,l3,l4⟩:=hv.cs
 simp only at l0 l1 l2 l3 l4
 have HW:=hide hW;have HG:=hide hg
 clear hW hg hv l0 l4 hx hown h0
 by_cases h0:a=0
 ·have HM:Hid (memL ⟨code,a,b,n,l⟩=[n,b].flatMap putN):=by show _=_;simp[memL,h0]
  have hz:((a:Int)==0)=true:=by simpa using h0
  have HP:Hid (Calls Tryz.prog 103 #[v,.slice (some ⟨W.heap.size,0,none⟩) 2 2] (W.alloc (.cells #[.int .u64 (n:Int),.int .u64 (b:Int)] 66)) _):=puts_lit base v xs [n,b] W ho1 (by show ∀_,_;simp;omega) hgW (by simp;omega)
  rw[HM.out]
  clear ho1 HM h0
  go_enter Tryz.func104,Tryz.ntmps104
  go_upto_region 1 with fail
  rw[HW.out,HG.out]
  go_wp2_with fail
  refine HP.out.mono ?_;rintro e w2 ⟨v2,rfl,ho2,hg2⟩
  clear HP
  go_wp2_with fail
  go_ret
  exact⟨_,rfl,ho2,hg1.out _ _ hg2.out⟩
 ·have HM:Hid (memL ⟨code,a,b,n,l⟩=[n+64,a,b].flatMap putN):=by show _=_;simp[memL,h0]
  have HP:Hid (Calls Tryz.prog 103 #[v,.slice (some ⟨W.heap.size,0,none⟩) 3 3] (W.alloc (.cells #[.int .u64 ((n:Int)+64),.int .u64 (a:Int),.int .u64 (b:Int)] 66)) _):=puts_lit base v xs [n+64,a,b] W ho1 (by show ∀_,_;simp;omega) hgW (by simp;omega)
  have hz:((a:Int)==0)=false:=by simp;omega
  rw[HM.out]
  clear ho1 HM h0
  go_enter Tryz.func104,Tryz.ntmps104
  go_upto_region 1 with fail
  rw[HW.out,HG.out]
  go_wp2_with fail
  refine HP.out.mono ?_;rintro e w2 ⟨v2,rfl,ho2,hg2⟩
  clear HP
  go_wp2_with fail
  go_ret
  exact⟨_,rfl,ho2,hg1.out _ _ hg2.out⟩
set_option maxRecDepth 100000 in
set_option maxHeartbeats 800000 in
theorem wordE_any (x:XI) (A:Option Addr) (cl:Nat) (base:Nat) (v:Value) (xs:List UInt8) (w:World) (hx:Hid x.In) (hown:Hid (OwnB w base v xs)) (hb:base≤w.heap.size) (hl:xs.length≤100000) :
  Calls Tryz.prog 105 #[.agg #[.int .i64 x.code,.int .u64 (x.a:Int),.int .u64 (x.b:Int),.int .i64 x.al,.slice A x.l.length cl],v] w fun e w'=>∃v',e=.returned v'∧Hid (OwnB w' base v' (xs++putSN (constI (x.code==66) x.a)))∧Hid (Grows w w' v v'):=by
 have ha64:=hx.out.a
 obtain⟨W,hW⟩:∃W,w.alloc (.cells #[.int .i64 x.code,.int .u64 (x.a:Int),.int .u64 (x.b:Int),.int .i64 x.al,.slice A x.l.length cl] 131)=W:=⟨_,rfl⟩
 obtain⟨g,hg⟩:∃g,w.heap.size=g:=⟨_,rfl⟩
 have hv:XV W g x A cl:=by rw[←hW,←hg];exact xv_new w x A cl
 have hgW:base≤W.heap.size:=by have:=blk_lt hv.blk;omega
 have ho1:Hid (OwnB W base v xs):=by show OwnB _ _ _ _;rw[←hW];exact own_alloc hown.out _
 have hg1:Hid (∀w' v',Grows W w' v v'→Grows w w' v v'):=by show ∀w' v',_;intro w' v' h;rw[←hW]at h;exact h.alloc_first
 obtain⟨l0,l1,l2,l3,l4⟩:=hv.cs
 have hbd:=constI_bd (x.code==66) x.a ha64
 have HP:=hide (putSigned_any base v xs (constI (x.code==66) x.a) W hbd.1 hbd.2.1 ho1 hgW (by omega))
 have HW:=hide hW;have HG:=hide hg
 cases q:(x.code==66) with
 | true =>
  rw[q]at HP
  have hK:Hid (constI true x.a=wrap64 (x.a:Int)):=by show _=_;unfold constI wrap64;simp only[if_true];split<;>omega
  have f66:(x.code != 66)=false:=by simpa using q
  rw[hK.out]at HP ⊢
  clear hW hg hv l2 l3 l4 hx hown hbd ho1 ha64 hK
  go_enter Tryz.func105,Tryz.ntmps105
  go_upto_region 1 with fail
  rw[HW.out,HG.out]
  go_wp2_with fail
  refine HP.out.mono ?_;rintro e w2 ⟨v2,rfl,ho2,hg2⟩
  have HO2:=hide ho2;have HG2:=hide hg2
  clear HP ho2 hg2
  go_wp2_with fail
  go_ret
  exact⟨_,rfl,HO2,hg1.out _ _ HG2.out⟩
 | false =>
  rw[q]at HP
  have hK:Hid (constI false x.a=wrap64 (wrap32 (x.a:Int))):=by show _=_;unfold constI wrap64 wrap32;simp only[Bool.false_eq_true,if_false];split<;>omega
  have f66:(x.code != 66)=true:=by simpa using q
  rw[hK.out]at HP ⊢
  clear hW hg hv l2 l3 l4 hx hown hbd ho1 ha64 hK
  go_enter Tryz.func105,Tryz.ntmps105
  go_upto_region 1 with fail
  rw[HW.out,HG.out]
  go_wp2_with fail
  refine HP.out.mono ?_;rintro e w2 ⟨v2,rfl,ho2,hg2⟩
  have HO2:=hide ho2;have HG2:=hide hg2
  clear HP ho2 hg2
  go_wp2_with fail
  go_ret
  exact⟨_,rfl,HO2,hg1.out _ _ HG2.out⟩
structure OnlyB (lim:Nat) (a b:World):Prop where
 os:b.os=a.os
 tape:b.tape=a.tape
 output:b.output=a.output
 size:a.heap.size≤b.heap.size
 block:∀i,i<a.heap.size→(i<lim∨∀cs h,a.heap[i]?≠some (.cells cs 5 h))→b.heap[i]?=a.heap[i]?
theorem OnlyB.ext (lim:Nat):IsExt (OnlyB lim) :=
 ⟨fun _=>⟨rfl,rfl,rfl,Nat.le_refl _,fun _ _ _=>rfl⟩,fun {_ _ _} h k=>⟨k.os.trans h.os,k.tape.trans h.tape,k.output.trans h.output,Nat.le_trans h.size k.size,fun i hi hn=>by
  have e1:=h.block i hi hn
  refine(k.block i (Nat.lt_of_lt_of_le hi h.size) ?_).trans e1
  rcases hn with hn|hn
  ·exact .inl hn
  ·exact .inr (by rw[e1];exact hn)⟩,fun _=>⟨rfl,rfl,rfl,Nat.le_refl _,fun _ _ _=>rfl⟩⟩
theorem OnlyB.of_grew {lim:Nat} {a b:World} (h:grew a b):OnlyB lim a b:=⟨h.os,h.tape,h.output,h.size,fun i hi _=>h.block i hi⟩
theorem OnlyB.below {lim:Nat} {a b:World} (h:OnlyB lim a b) (hl:lim≤a.heap.size):Below lim a b:=⟨h.os,h.tape,h.output,h.size,fun i hi=>h.block i (by omega) (.inl hi)⟩
theorem OnlyB.of_grows {lim base:Nat} {a b:World} {v v':Value} {xs:List UInt8} (h:OwnB a base v xs) (hb:lim≤base) (hg:Grows a b v v'):OnlyB lim a b:=by
 refine⟨hg.by_.os,hg.by_.tape,hg.by_.output,hg.by_.size,fun i hi hn=>hg.by_.block i hi ?_⟩
 intro e
 rcases h.2 with ⟨rfl,_⟩|⟨g,cap,cur,rfl,hge,hh,_⟩
 ·cases e
 ·injection e with e
  subst e
  rcases hn with hn|hn
  ·omega
  ·exact hn _ _ hh
theorem OnlyB.cell {lim g:Nat} {a b:World} (h:OnlyB lim a b) (hg:g<lim) {cs:Array Value} {t:TypeId} (hb:a.heap[g]?=some (.cells cs t (0,0))) (i:Nat):b.cell? ⟨g,i,none⟩=cs[i]?:=cell_blk ((h.block g (blk_lt hb) (.inl hg)).trans hb) i
theorem OnlyB.keep {lim g:Nat} {a b:World} (h:OnlyB lim a b) {cs:Array Value} {t:TypeId} (ht:t≠5) (hb:a.heap[g]?=some (.cells cs t (0,0))):b.heap[g]?=some (.cells cs t (0,0)) :=
 (h.block g (blk_lt hb) (.inr (by rw[hb];intro cs' h' e;injection e with e;injection e with _ e _;exact ht e))).trans hb
theorem own_grew {w w':World} {base:Nat} {v:Value} {xs:List UInt8} (h:OwnB w base v xs) (hg:grew w w'):OwnB w' base v xs:=own_only3 (S:=[]) h (Only.of_below hg) (by simp)
def EncP (x:XI) (w:World) (e:Ending) (w':World):Prop:=∃v',e=.returned (.tuple #[v',.int .i64 0])∧Hid (OwnB w' w.heap.size v' (encX x))∧Hid (Below w.heap.size w w')
theorem EncP.mk' {x:XI} {w w3 w':World} {g:Nat} {hd ys:List UInt8} {v v':Value} (hg:w.heap.size=g) (h3:Below g w w3) (hs:g≤w3.heap.size) (ho3:OwnB w3 (g+1) v hd) (ho:OwnB w' (g+1) v' (hd++ys)) (hgr:Grows w3 w' v v') (he:encX x=hd++ys):EncP x w (.returned (.tuple #[v',.int .i64 0])) w':=by
 refine⟨v',rfl,?_,?_⟩
 ·show OwnB _ _ _ _
  rw[he,hg]
  exact own_base ho (fun q hq=>by have:=own_ge ho q hq;omega)
 ·show Below _ _ _
  rw[hg]
  exact hgr.below' h3 hs (fun q hq=>by have:=own_ge ho3 q hq;omega)
set_option maxRecDepth 100000 in
set_option maxHeartbeats 20000000 in
theorem encode_yes (x:XI) (A:Option Addr) (cl:Nat) (w:World) (hx:Hid x.In) (hr:Hid (Reads w w.heap.size 1 A x.l.length (x.l.map U))) (hl:x.l.length≤1000000) (hq:Hid (rightX x=true)) :
  Calls Tryz.prog 67 #[.agg #[.int .i64 x.code,.int .u64 (x.a:Int),.int .u64 (x.b:Int),.int .i64 x.al,.slice A x.l.length cl]] w (EncP x w):=by
 obtain⟨r,hor,hci,hrf⟩:=right_some hq.out
 obtain⟨W,hW⟩:∃W,w.alloc (.cells #[.int .i64 x.code,.int .u64 (x.a:Int),.int .u64 (x.b:Int),.int .i64 x.al,.slice A x.l.length cl] 131)=W:=⟨_,rfl⟩
 obtain⟨g,hg⟩:∃g,w.heap.size=g:=⟨_,rfl⟩
 have hb:Below g w W:=by rw[←hW,←hg];exact(Below.refl _ _).alloc (Nat.le_refl _) _
 have hv:XV W g x A cl:=by rw[←hW,←hg];exact xv_new w x A cl
 have hgW:g<W.heap.size:=blk_lt hv.blk
 have hrW:Hid (Reads W W.heap.size 1 A x.l.length (x.l.map U)):=by have:=hr.out;rw[hg]at this;exact(this.below hb).more (by omega)
 have HR:=hide (insRight_any x A cl W hx hrW hl)
 rw[hq.out]at HR
 have HHD:=hide (fun W=>head_any x A cl W hci)
 have HFO:=hide (fun W=>form_any x.code (x.a:Int) (x.b:Int) x.al A x.l.length cl W hx.out.c1 hx.out.c2)
 have hv1:formV x.code=refForm x.code:=formV_ref (by rw[hor];rfl)
 rw[hv1]at HFO
 have hrF:Hid (Reads w w.heap.size 1 A x.l.length (x.l.map U)):=hr
 have hhl:(headL x.code).length≤20:=by unfold headL;have:=putN_length (x.code-64512).toNat;split<;>simp;omega
 have HQ:Hid (encX x=headL x.code++bodyL (refForm x.code) x):=rfl
 have hfb:=refForm_bd x.code
 obtain⟨l0,l1,l2,l3,l4⟩:=hv.cs
 have HB:=hide hb;have HW:=hide hW;have HG:=hide hg;have HV:=hide hv;have HRF:=hide hrf
 clear hb hW hg hv hr hrW hq hor hci hv1 hrf
 go_enter Tryz.func67,Tryz.ntmps67
 go_upto_region 1 with fail
 rw[HW.out,HG.out]
 go_wp2_with fail
 refine HR.out.mono ?_;rintro e w1 ⟨rfl,h1⟩
 have HV1:=hide (HV.out.below h1.out hgW)
 have HB1:Hid (Below g w w1):=HB.out.trans (h1.out.mono (by omega))
 have hg1:g<w1.heap.size:=by have:=h1.out.size;omega
 clear l0 l1 l2 l3 l4 HR HV HB h1 HW
 obtain⟨l0,l1,l2,l3,l4⟩:=HV1.out.cs
 go_wp2_with fail
 refine(HHD.out _).mono ?_;rintro e w2 ⟨v2,rfl,ho2,h2⟩
 have HV2:=hide (HV1.out.below h2.out hg1)
 have HB2:Hid (Below g w w2):=HB1.out.trans (h2.out.mono (by omega))
 have ho2':Hid (OwnB w2 (g+1) v2 (headL x.code)):=own_base ho2.out (fun q hq=>by have:=own_ge ho2.out q hq;omega)
 have hg2:g<w2.heap.size:=by have:=h2.out.size;omega
 clear l0 l1 l2 l3 l4 HHD HV1 HB1 h2 ho2
 obtain⟨l0,l1,l2,l3,l4⟩:=HV2.out.cs
 go_wp2_with fail
 refine(HFO.out _).mono ?_;rintro e w3 ⟨rfl,h3⟩
 have HV3:=hide (HV2.out.below h3.out hg2)
 have HB3:Hid (Below g w w3):=HB2.out.trans (h3.out.mono (by omega))
 have ho3:Hid (OwnB w3 (g+1) v2 (headL x.code)):=own_grew ho2'.out h3.out
 have hg3:g+1≤w3.heap.size:=by have:=h3.out.size;omega
 have hg3':g≤w3.heap.size:=by omega
 have HR3:Hid (Reads w3 g 1 A x.l.length (x.l.map U)):=by have:=hrF.out;rw[HG.out]at this;exact this.below HB3.out
 clear l0 l1 l2 l3 l4 HFO HV2 HB2 h3 ho2' hrF
 obtain⟨l0,l1,l2,l3,l4⟩:=HV3.out.cs
 generalize headL x.code=hd at ho3 HQ hhl
 have ha64:=hx.out.a
 have hb64:=hx.out.b
 generalize refForm x.code=f at hfb HQ HRF ⊢
 rcases hfb with rfl|rfl|rfl|rfl|rfl|rfl|rfl|rfl|rfl|rfl|rfl|rfl
 ·as_aux_lemma =>
   have HE:Hid (encX x=hd++[]):=by show _=_;rw[HQ.out];simp[bodyL]
   clear HQ HRF
   go_wp2_with fail
   go_ret2
   exact EncP.mk' HG.out HB3.out hg3' ho3.out (by rw[List.append_nil];exact ho3.out) (Grows.refl _ _) HE.out
 ·as_aux_lemma =>
   have hbl:x.a=64∨x.a=126∨x.a=127:=by
    have:=HRF.out
    simp[rightF,blocked]at this
    omega
   rcases hbl with hk|hk|hk
   ·have HE:Hid (encX x=hd++[64]):=by show _=_;rw[HQ.out];simp[bodyL,hk]
    rw[hk]at l1
    have hroom:Room hd.length 1 1:=room_of (by omega) (by omega)
    clear HQ HRF hk
    go_wp2_with (at_builtin;refine wpList_push rfl _ _ rfl (g+1) u8_elem v2 hd.length (hd.map B) rfl w3 (.int .u8 64) _ rfl ho3.out rfl rfl hroom hg3 ?_;intro v4 w4 ho4 hg4;have HO4:=hide ho4;have HG4:=hide hg4;clear ho4 hg4)
    go_ret2
    exact EncP.mk' HG.out HB3.out hg3' ho3.out (OwnB.push (b:=64) HO4.out) HG4.out HE.out
   ·have HE:Hid (encX x=hd++[126]):=by show _=_;rw[HQ.out];simp[bodyL,hk]
    rw[hk]at l1
    have hroom:Room hd.length 1 1:=room_of (by omega) (by omega)
    clear HQ HRF hk
    go_wp2_with (at_builtin;refine wpList_push rfl _ _ rfl (g+1) u8_elem v2 hd.length (hd.map B) rfl w3 (.int .u8 126) _ rfl ho3.out rfl rfl hroom hg3 ?_;intro v4 w4 ho4 hg4;have HO4:=hide ho4;have HG4:=hide hg4;clear ho4 hg4)
    go_ret2
    exact EncP.mk' HG.out HB3.out hg3' ho3.out (OwnB.push (b:=126) HO4.out) HG4.out HE.out
   ·have HE:Hid (encX x=hd++[127]):=by show _=_;rw[HQ.out];simp[bodyL,hk]
    rw[hk]at l1
    have hroom:Room hd.length 1 1:=room_of (by omega) (by omega)
    clear HQ HRF hk
    go_wp2_with (at_builtin;refine wpList_push rfl _ _ rfl (g+1) u8_elem v2 hd.length (hd.map B) rfl w3 (.int .u8 127) _ rfl ho3.out rfl rfl hroom hg3 ?_;intro v4 w4 ho4 hg4;have HO4:=hide ho4;have HG4:=hide hg4;clear ho4 hg4)
    go_ret2
    exact EncP.mk' HG.out HB3.out hg3' ho3.out (OwnB.push (b:=127) HO4.out) HG4.out HE.out
 ·as_aux_lemma =>
   have HE:Hid (encX x=hd++[x.a].flatMap putN):=by show _=_;rw[HQ.out];simp[bodyL]
   have HP:Hid (Calls Tryz.prog 103 #[v2,.slice (some ⟨w3.heap.size,0,none⟩) 1 1] (w3.alloc (.cells #[.int .u64 (x.a:Int)] 66)) _):=puts_lit (g+1) v2 hd [x.a] w3 ho3 (by show ∀_,_;simp;omega) hg3 (by simp;omega)
   clear HQ HRF
   go_wp2_with fail
   refine HP.out.mono ?_;rintro e w4 ⟨v4,rfl,ho4,hg4⟩
   clear HP l0 l1 l2 l3 l4
   go_wp2_with fail
   go_ret2
   exact EncP.mk' HG.out HB3.out hg3' ho3.out ho4.out hg4.out HE.out
 ·as_aux_lemma =>
   have HE:Hid (encX x=hd++((putN x.l.length++x.l.flatMap putN)++putN x.a)):=by show _=_;rw[HQ.out];simp[bodyL]
   have hl100:x.l.length≤100:=by
    have:=HRF.out
    simp[rightF]at this
    omega
   have hll:Hid (∀n∈x.l,n<2^64):=hx.out.l
   have h64:Hid (∀n∈[x.a],n<2^64):=by show ∀_,_;simp;omega
   have h64l:Hid (∀n∈[x.l.length],n<2^64):=by show ∀_,_;simp;omega
   have hblk:=HV3.out.blk
   have HBLK:=hide hblk
   have hpl:=putN_length x.l.length
   have hpl2:=putsL_len x.l
   obtain⟨q1,hq1⟩:∃q,putN x.l.length=q:=⟨_,rfl⟩
   obtain⟨q2,hq2⟩:∃q,x.l.flatMap putN=q:=⟨_,rfl⟩
   obtain⟨q3,hq3⟩:∃q,putN x.a=q:=⟨_,rfl⟩
   rw[hq1,hq2,hq3]at HE
   rw[hq1]at hpl
   rw[hq2]at hpl2
   have H1:Hid ([x.l.length].flatMap putN=q1):=by show _=_;simpa using hq1
   have H2:=hide hq2
   have H3:Hid ([x.a].flatMap putN=q3):=by show _=_;simpa using hq3
   clear HQ HRF hblk l0 l1 l2 l3 l4 hq1 hq2 hq3
   go_upto_region 14 with fail
   refine wp_region_factsD grew_ext (OnlyB.ext (g+1)) (fun _ _ h=>OnlyB.of_grew h) [6,9,13,14] 14 (factsOf [fun yy _=>yy=v2,
    fun yy _=>yy=.pointer (some ⟨g,4,none⟩),
    fun yy _=>yy=.slice A x.l.length cl,
    fun yy _=>yy=.int .i64 (x.l.length:Int),
    fun yy _=>yy=.int .u64 (x.l.length:Int),
    fun yy W=>∃gs,yy=.slice (some ⟨gs,0,none⟩) 1 1∧W.heap[gs]?=some (.cells #[.int .u64 (x.l.length:Int)] 66 (0,0)),
    fun yy W=>OwnB W (g+1) yy (hd++q1),
    fun yy _=>yy=.pointer (some ⟨g,4,none⟩),
    fun yy _=>yy=.slice A x.l.length cl,
    fun yy W=>OwnB W (g+1) yy ((hd++q1)++q2),
    fun yy _=>yy=.pointer (some ⟨g,1,none⟩),
    fun yy _=>yy=.int .u64 (x.a:Int),
    fun yy W=>∃gs,yy=.slice (some ⟨gs,0,none⟩) 1 1∧W.heap[gs]?=some (.cells #[.int .u64 (x.a:Int)] 66 (0,0)),
    fun yy W=>OwnB W (g+1) yy (((hd++q1)++q2)++q3),
    fun yy W=>OwnB W (g+1) yy (((hd++q1)++q2)++q3)]) (by kernel_rfl) (by kernel_rfl) (by kernel_rfl) (by decide) rfl (by decide) (by kernel_rfl) (no_stores (by kernel_rfl)) ?_ ?_
   ·refine⟨?_,?_,?_,?_,?_,?_,?_,?_,?_,?_,?_,?_,?_,?_,?_,trivial⟩
    ·refine ObD.plainO (by decide) rfl fun ρ W hk ho=>?_
     exact OpOut.move (.tmp 4) rfl ⟨Below.refl _ _,ho 4 (by kernel_rfl)⟩
    ·refine ObD.plain (by decide) rfl fun ρ W hk=>?_
     have o1:ρ (.tmp 1)=.pointer (some ⟨g,0,none⟩):=hk.old 1 (by decide)
     exact OpOut.fieldAddr (x:=.tmp 1) rfl o1 (by go_simp) ⟨Below.refl _ _,rfl⟩
    ·refine ObD.plain (by decide) rfl fun ρ W hk=>?_
     have h0:=(hk.fact 1 34 (by decide) rfl).pure
     have hc:=hk.below.cell (Nat.lt_succ_self g) HBLK.out 4
     simp at hc
     exact OpOut.load (x:=.tmp 34) rfl h0 (by go_simp) ⟨Below.refl _ _,rfl⟩
    ·refine ObD.plain (by decide) rfl fun ρ W hk=>?_
     have h0:=(hk.fact 2 35 (by decide) rfl).pure
     exact OpOut.len (x:=.tmp 35) rfl Tryz.underlying67 h0 ⟨Below.refl _ _,rfl⟩
    ·refine ObD.plain (by decide) rfl fun ρ W hk=>?_
     have h0:=(hk.fact 3 36 (by decide) rfl).pure
     exact OpOut.conv (x:=.tmp 36) rfl (by rw[h0];go_simp;rw[IntKind.wrap_u64];omega) ⟨Below.refl _ _,rfl⟩
    ·refine ObD.plain (by decide) rfl fun ρ W hk=>?_
     have h0:=(hk.fact 4 37 (by decide) rfl).pure
     exact OpOut.buildSlice (us:=#[(0,.int .u64 (x.l.length:Int))]) rfl (by simp[h0]) (by go_simp) ⟨(Below.refl _ _).alloc (Nat.le_refl _) _,W.heap.size,rfl,heap_alloc_new W _⟩
    ·refine ObD.first rfl rfl fun ρ W hk hk0=>?_
     have hw:=hk0.below
     have h0:=(hk.fact 0 33 (by decide) rfl).pure
     obtain⟨w5,hw5,gs,h5,hh5⟩:=hk.fact 5 38 (by decide) rfl
     have hh6:=hw5.keep (by decide) hh5
     have ho:OwnB W (g+1) v2 hd:=own_grew ho3.out hw
     refine OpOut.fn (args:=#[v2,.slice (some ⟨gs,0,none⟩) 1 1]) rfl (hk.func _) (by simp[h0,h5]) Tryz.func103 (by kernel_rfl) rfl ?_
     refine(puts_any (g+1) v2 hd (some ⟨gs,0,none⟩) 1 [x.l.length] W ho (reads_blk (cs:=[_]) hh6 rfl) (apart_blk (by decide) hh6 ho) h64l (by have:=hk.below.size;omega) (by simp;omega)).mono ?_
     rintro e w7 ⟨v7,rfl,ho7,hg7⟩
     rw[H1.out]at ho7
     exact⟨v7,rfl,OnlyB.of_grows ho (Nat.le_refl _) hg7,ho7⟩
    ·refine ObD.plain (by decide) rfl fun ρ W hk=>?_
     have o1:ρ (.tmp 1)=.pointer (some ⟨g,0,none⟩):=hk.old 1 (by decide)
     exact OpOut.fieldAddr (x:=.tmp 1) rfl o1 (by go_simp) ⟨Below.refl _ _,rfl⟩
    ·refine ObD.plain (by decide) rfl fun ρ W hk=>?_
     have h0:=(hk.fact 7 40 (by decide) rfl).pure
     have hc:=hk.below.cell (Nat.lt_succ_self g) HBLK.out 4
     simp at hc
     exact OpOut.load (x:=.tmp 40) rfl h0 (by go_simp) ⟨Below.refl _ _,rfl⟩
    ·refine ObD.next 0 6 39 rfl rfl rfl rfl fun ρ W hk hw=>?_
     have h8:=(hk.fact 8 41 (by decide) rfl).pure
     obtain⟨w6,hw6,ho6⟩:=hw
     generalize hr39:ρ (.tmp 39)=v6 at ho6
     have ho:OwnB W (g+1) v6 (hd++q1):=own_grew ho6 hw6
     have hrd:Reads W W.heap.size 1 A x.l.length (x.l.map U):=(HR3.out.below ((hk.below.below hg3).mono (by omega))).more (by have:=hk.below.size;omega)
     refine OpOut.fn (args:=#[v6,.slice A x.l.length cl]) rfl (hk.func _) (by simp[hr39,h8]) Tryz.func103 (by kernel_rfl) rfl ?_
     refine(puts_any (g+1) v6 (hd++q1) A cl x.l W ho hrd (by
      show _→∀ad q,_
      intro h0 ad q hA hq
      obtain⟨ad',e1,hlt,_⟩:=HR3.out.2 h0
      rw[hA]at e1
      injection e1 with e1
      subst e1
      have:=own_ge ho q hq
      omega) hll (by have:=hk.below.size;omega) (by simp;omega)).mono ?_
     rintro e w7 ⟨v7,rfl,ho7,hg7⟩
     rw[H2.out]at ho7
     exact⟨v7,rfl,OnlyB.of_grows ho (Nat.le_refl _) hg7,ho7⟩
    ·refine ObD.plain (by decide) rfl fun ρ W hk=>?_
     have o1:ρ (.tmp 1)=.pointer (some ⟨g,0,none⟩):=hk.old 1 (by decide)
     exact OpOut.fieldAddr (x:=.tmp 1) rfl o1 (by go_simp) ⟨Below.refl _ _,rfl⟩
    ·refine ObD.plain (by decide) rfl fun ρ W hk=>?_
     have h0:=(hk.fact 10 43 (by decide) rfl).pure
     have hc:=hk.below.cell (Nat.lt_succ_self g) HBLK.out 1
     simp at hc
     exact OpOut.load (x:=.tmp 43) rfl h0 (by go_simp) ⟨Below.refl _ _,rfl⟩
    ·refine ObD.plain (by decide) rfl fun ρ W hk=>?_
     have h0:=(hk.fact 11 44 (by decide) rfl).pure
     exact OpOut.buildSlice (us:=#[(0,.int .u64 (x.a:Int))]) rfl (by simp[h0]) (by go_simp) ⟨(Below.refl _ _).alloc (Nat.le_refl _) _,W.heap.size,rfl,heap_alloc_new W _⟩
    ·refine ObD.next 1 9 42 rfl rfl rfl rfl fun ρ W hk hw=>?_
     obtain⟨w5,hw5,gs,h5,hh5⟩:=hk.fact 12 45 (by decide) rfl
     have hh6:=hw5.keep (by decide) hh5
     obtain⟨w6,hw6,ho6⟩:=hw
     generalize hr42:ρ (.tmp 42)=v6 at ho6
     have ho:OwnB W (g+1) v6 ((hd++q1)++q2):=own_grew ho6 hw6
     refine OpOut.fn (args:=#[v6,.slice (some ⟨gs,0,none⟩) 1 1]) rfl (hk.func _) (by simp[hr42,h5]) Tryz.func103 (by kernel_rfl) rfl ?_
     refine(puts_any (g+1) v6 ((hd++q1)++q2) (some ⟨gs,0,none⟩) 1 [x.a] W ho (reads_blk (cs:=[_]) hh6 rfl) (apart_blk (by decide) hh6 ho) h64 (by have:=hk.below.size;omega) (by simp;omega)).mono ?_
     rintro e w7 ⟨v7,rfl,ho7,hg7⟩
     rw[H3.out]at ho7
     exact⟨v7,rfl,OnlyB.of_grows ho (Nat.le_refl _) hg7,ho7⟩
    ·refine ObD.next 2 13 46 rfl rfl rfl rfl fun ρ W hk hw=>?_
     obtain⟨w6,hw6,ho6⟩:=hw
     exact OpOut.assign (.tmp 46) rfl ⟨(OnlyB.ext _).refl _,own_grew ho6 hw6⟩
   ·intro vs W2 hb2 hf hl14
    obtain⟨w6,hw6,ho6⟩:=hl14
    have HO6:Hid (OwnB W2 (g+1) (vs 14) (((hd++q1)++q2)++q3)):=own_grew ho6 hw6
    have HB6:Hid (Below g w W2):=HB3.out.trans ((hb2.below hg3).mono (by omega))
    clear hf hw6 ho6 hb2
    simp only[fillL]
    generalize vs 0=y0,vs 1=y1,vs 2=y2,vs 3=y3,vs 4=y4,vs 5=y5,vs 6=y6,vs 7=y7,vs 8=y8,vs 9=y9,vs 10=y10,vs 11=y11,vs 12=y12,vs 13=y13 at *
    generalize vs 14=v4 at HO6 ⊢
    go_frame
    go_wp2_with fail
    go_ret2
    refine⟨v4,rfl,?_,?_⟩
    ·show OwnB _ _ _ _
     rw[HE.out,HG.out]
     have:=own_base (base':=g) HO6.out (fun q hq=>by have:=own_ge HO6.out q hq;omega)
     simpa [OwnB]using this
    ·show Below _ _ _
     rw[HG.out]
     exact HB6.out
 ·as_aux_lemma =>
   have HE:Hid (encX x=hd++[x.a].flatMap putN):=by show _=_;rw[HQ.out];simp[bodyL]
   have HP:Hid (Calls Tryz.prog 103 #[v2,.slice (some ⟨w3.heap.size,0,none⟩) 1 1] (w3.alloc (.cells #[.int .u64 (x.a:Int)] 66)) _):=puts_lit (g+1) v2 hd [x.a] w3 ho3 (by show ∀_,_;simp;omega) hg3 (by simp;omega)
   clear HQ HRF
   go_wp2_with fail
   refine HP.out.mono ?_;rintro e w4 ⟨v4,rfl,ho4,hg4⟩
   clear HP l0 l1 l2 l3 l4
   go_wp2_with fail
   go_ret2
   exact EncP.mk' HG.out HB3.out hg3' ho3.out ho4.out hg4.out HE.out
 ·as_aux_lemma =>
   have HE:Hid (encX x=hd++[x.a,x.b].flatMap putN):=by show _=_;rw[HQ.out];simp[bodyL]
   have HP:Hid (Calls Tryz.prog 103 #[v2,.slice (some ⟨w3.heap.size,0,none⟩) 2 2] (w3.alloc (.cells #[.int .u64 (x.a:Int),.int .u64 (x.b:Int)] 66)) _):=puts_lit (g+1) v2 hd [x.a,x.b] w3 ho3 (by show ∀_,_;simp;omega) hg3 (by simp;omega)
   clear HQ HRF
   go_wp2_with fail
   refine HP.out.mono ?_;rintro e w4 ⟨v4,rfl,ho4,hg4⟩
   clear HP l0 l1 l2 l3 l4
   go_wp2_with fail
   go_ret2
   exact EncP.mk' HG.out HB3.out hg3' ho3.out ho4.out hg4.out HE.out
 ·as_aux_lemma =>
   have HE:Hid (encX x=hd++[x.a].flatMap putN):=by show _=_;rw[HQ.out];simp[bodyL]
   have HP:Hid (Calls Tryz.prog 103 #[v2,.slice (some ⟨w3.heap.size,0,none⟩) 1 1] (w3.alloc (.cells #[.int .u64 (x.a:Int)] 66)) _):=puts_lit (g+1) v2 hd [x.a] w3 ho3 (by show ∀_,_;simp;omega) hg3 (by simp;omega)
   clear HQ HRF
   go_wp2_with fail
   refine HP.out.mono ?_;rintro e w4 ⟨v4,rfl,ho4,hg4⟩
   clear HP l0 l1 l2 l3 l4
   go_wp2_with fail
   go_ret2
   exact EncP.mk' HG.out HB3.out hg3' ho3.out ho4.out hg4.out HE.out
 ·as_aux_lemma =>
   have HE:Hid (encX x=hd++[x.a].flatMap putN):=by show _=_;rw[HQ.out];simp[bodyL]
   have HP:Hid (Calls Tryz.prog 103 #[v2,.slice (some ⟨w3.heap.size,0,none⟩) 1 1] (w3.alloc (.cells #[.int .u64 (x.a:Int)] 66)) _):=puts_lit (g+1) v2 hd [x.a] w3 ho3 (by show ∀_,_;simp;omega) hg3 (by simp;omega)
   clear HQ HRF
   go_wp2_with fail
   refine HP.out.mono ?_;rintro e w4 ⟨v4,rfl,ho4,hg4⟩
   clear HP l0 l1 l2 l3 l4
   go_wp2_with fail
   go_ret2
   exact EncP.mk' HG.out HB3.out hg3' ho3.out ho4.out hg4.out HE.out
 ·as_aux_lemma =>
   have HE:Hid (encX x=hd++memL x):=by show _=_;rw[HQ.out];simp[bodyL,memL]
   have hal:0≤x.al∧x.al≤31:=by
    have:=HRF.out
    simp[rightF]at this
    omega
   have HP:=hide (mem_any x A cl (g+1) v2 hd w3 hx hal.1 hal.2 ho3 hg3 (by omega))
   clear HQ HRF hal
   go_wp2_with fail
   refine HP.out.mono ?_;rintro e w4 ⟨v4,rfl,ho4,hg4⟩
   clear HP l0 l1 l2 l3 l4
   go_wp2_with fail
   go_ret2
   exact EncP.mk' HG.out HB3.out hg3' ho3.out ho4.out hg4.out HE.out
 ·as_aux_lemma =>
   have HE:Hid (encX x=hd++[x.a].flatMap putN):=by show _=_;rw[HQ.out];simp[bodyL]
   have HP:Hid (Calls Tryz.prog 103 #[v2,.slice (some ⟨w3.heap.size,0,none⟩) 1 1] (w3.alloc (.cells #[.int .u64 (x.a:Int)] 66)) _):=puts_lit (g+1) v2 hd [x.a] w3 ho3 (by show ∀_,_;simp;omega) hg3 (by simp;omega)
   clear HQ HRF
   go_wp2_with fail
   refine HP.out.mono ?_;rintro e w4 ⟨v4,rfl,ho4,hg4⟩
   clear HP l0 l1 l2 l3 l4
   go_wp2_with fail
   go_ret2
   exact EncP.mk' HG.out HB3.out hg3' ho3.out ho4.out hg4.out HE.out
 ·as_aux_lemma =>
   have HE:Hid (encX x=hd++[x.a,x.b].flatMap putN):=by show _=_;rw[HQ.out];simp[bodyL]
   have HP:Hid (Calls Tryz.prog 103 #[v2,.slice (some ⟨w3.heap.size,0,none⟩) 2 2] (w3.alloc (.cells #[.int .u64 (x.a:Int),.int .u64 (x.b:Int)] 66)) _):=puts_lit (g+1) v2 hd [x.a,x.b] w3 ho3 (by show ∀_,_;simp;omega) hg3 (by simp;omega)
   clear HQ HRF
   go_wp2_with fail
   refine HP.out.mono ?_;rintro e w4 ⟨v4,rfl,ho4,hg4⟩
   clear HP l0 l1 l2 l3 l4
   go_wp2_with fail
   go_ret2
   exact EncP.mk' HG.out HB3.out hg3' ho3.out ho4.out hg4.out HE.out
 ·as_aux_lemma =>
   have HE:Hid (encX x=hd++putSN (constI (x.code==66) x.a)):=by show _=_;rw[HQ.out];simp[bodyL]
   have HP:=hide (wordE_any x A cl (g+1) v2 hd w3 hx ho3 hg3 (by omega))
   clear HQ HRF
   go_wp2_with fail
   refine HP.out.mono ?_;rintro e w4 ⟨v4,rfl,ho4,hg4⟩
   clear HP l0 l1 l2 l3 l4
   go_wp2_with fail
   go_ret2
   exact EncP.mk' HG.out HB3.out hg3' ho3.out ho4.out hg4.out HE.out
end Go.Proofs.YtomppgohoplemaaGreat
