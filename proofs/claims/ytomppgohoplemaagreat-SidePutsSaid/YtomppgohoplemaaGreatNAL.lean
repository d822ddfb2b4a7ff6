import Derived.Test.YtomppgohoplemaaGreatNAI
set_option linter.unusedVariables false
namespace Go.Proofs.YtomppgohoplemaaGreat
open Go.RowKit
theorem refForm_bd (c:Int):refForm c=0∨refForm c=1∨refForm c=2∨refForm c=3∨refForm c=4∨refForm c=5∨refForm c=6∨refForm c=7∨refForm c=8∨refForm c=9∨refForm c=10∨refForm c=11:=by
 unfold refForm
 repeat' split
 all_goals omega
theorem small_any (n:Nat) (w:World):Calls Tryz.prog 120 #[.int .u64 (n:Int)] w fun e w'=>e=.returned (.bool (small n))∧w=w':=by
 have hv:small n=decide ((n:Int)≤4294967295):=by unfold small;by_cases h:n≤4294967295<;>simp[h]<;>omega
 rw[hv]
 clear hv
 go_enter Tryz.func120,Tryz.ntmps120
 go_wp2_with fail
 go_ret
 exact⟨rfl,rfl⟩
structure XV (w:World) (g:Nat) (x:XI) (A:Option Addr) (cl:Nat):Prop where
 blk:w.heap[g]?=some (.cells #[.int .i64 x.code,.int .u64 (x.a:Int),.int .u64 (x.b:Int),.int .i64 x.al,.slice A x.l.length cl] 131 (0,0))
theorem XV.below {w w':World} {g:Nat} {x:XI} {A:Option Addr} {cl:Nat} {Bk:Nat} (h:XV w g x A cl) (hb:Below Bk w w') (hg:g<Bk):XV w' g x A cl:=⟨(hb.block g hg).trans h.blk⟩
theorem XV.cs {w:World} {g:Nat} {x:XI} {A:Option Addr} {cl:Nat} (h:XV w g x A cl):w.cell? ⟨g,0,none⟩=some (.int .i64 x.code)∧w.cell? ⟨g,1,none⟩=some (.int .u64 (x.a:Int))∧w.cell? ⟨g,2,none⟩=some (.int .u64 (x.b:Int))∧w.cell? ⟨g,3,none⟩=some (.int .i64 x.al)∧w.cell? ⟨g,4,none⟩=some (.slice A x.l.length cl) :=
 ⟨cell_blk h.blk 0,cell_blk h.blk 1,cell_blk h.blk 2,cell_blk h.blk 3,cell_blk h.blk 4⟩
theorem xv_new (w:World) (x:XI) (A:Option Addr) (cl:Nat):XV (w.alloc (.cells #[.int .i64 x.code,.int .u64 (x.a:Int),.int .u64 (x.b:Int),.int .i64 x.al,.slice A x.l.length cl] 131)) w.heap.size x A cl:=⟨heap_alloc_new w _⟩
def bareX (x:XI) (b al l:Int):Bool:=((x.b:Int)==b)&&((x.al==al)&&((x.l.length:Int)==l))
theorem rf0 (x:XI):rightF 0 x=((x.a==0)&&bareX x 0 0 0):=by rw[Bool.eq_iff_iff];simp[rightF,bareX]
theorem rf1 (x:XI):rightF 1 x=(blocked x.a&&bareX x 0 0 0):=by rw[Bool.eq_iff_iff];simp[rightF,bareX]
theorem rf2 (x:XI):rightF 2 x=(small x.a&&bareX x 0 0 0):=by rw[Bool.eq_iff_iff];simp[rightF,bareX]
theorem rf4 (x:XI):rightF 4 x=(small x.a&&bareX x 0 0 0):=by rw[Bool.eq_iff_iff];simp[rightF,bareX]
theorem rf6 (x:XI):rightF 6 x=(small x.a&&bareX x 0 0 0):=by rw[Bool.eq_iff_iff];simp[rightF,bareX]
theorem rf7 (x:XI):rightF 7 x=(small x.a&&bareX x 0 0 0):=by rw[Bool.eq_iff_iff];simp[rightF,bareX]
theorem rf9 (x:XI):rightF 9 x=(small x.a&&bareX x 0 0 0):=by rw[Bool.eq_iff_iff];simp[rightF,bareX]
theorem rf3 (x:XI):rightF 3 x=(small x.a&&(x.l.all small&&(decide (x.l.length≤100)&&bareX x 0 0 (x.l.length:Int)))):=by rw[Bool.eq_iff_iff];simp[rightF,bareX]
theorem rf5 (x:XI):rightF 5 x=(small x.a&&(small x.b&&bareX x (x.b:Int) 0 0)):=by rw[Bool.eq_iff_iff];simp[rightF,bareX]
theorem rf10 (x:XI):rightF 10 x=(small x.a&&(small x.b&&bareX x (x.b:Int) 0 0)):=by rw[Bool.eq_iff_iff];simp[rightF,bareX]
theorem rf8 (x:XI):rightF 8 x=(small x.a&&(decide (0≤x.al)&&(decide (x.al≤31)&&((x.l.length:Int)==0)))):=by rw[Bool.eq_iff_iff];simp[rightF]
theorem rf11 (x:XI):rightF 11 x=((x.code==66||small x.a)&&bareX x 0 0 0):=by rw[Bool.eq_iff_iff];simp[rightF,bareX]
set_option maxHeartbeats 800000 in
theorem bare_any (x:XI) (A:Option Addr) (cl:Nat) (b al l:Int) (w:World) :
  Calls Tryz.prog 118 #[.agg #[.int .i64 x.code,.int .u64 (x.a:Int),.int .u64 (x.b:Int),.int .i64 x.al,.slice A x.l.length cl],.int .u64 b,.int .i64 al,.int .i64 l] w fun e w'=>e=.returned (.bool (bareX x b al l))∧Hid (Below w.heap.size w w'):=by
 obtain⟨W,hW⟩:∃W,w.alloc (.cells #[.int .i64 x.code,.int .u64 (x.a:Int),.int .u64 (x.b:Int),.int .i64 x.al,.slice A x.l.length cl] 131)=W:=⟨_,rfl⟩
 have hb:Below w.heap.size w W:=by rw[←hW];exact(Below.refl _ _).alloc (Nat.le_refl _) _
 have hx:XV W w.heap.size x A cl:=by rw[←hW];exact xv_new w x A cl
 obtain⟨l0,l1,l2,l3,l4⟩:=hx.cs
 have HB:=hide hb;have HW:=hide hW
 clear hb hW hx
 unfold bareX
 cases q1:((x.b:Int)==b) with
 | false =>
  go_enter Tryz.func118,Tryz.ntmps118
  go_upto_region 1 with fail
  rw[HW.out]
  go_wp2_with fail
  go_ret
  exact⟨rfl,HB⟩
 | true =>
  cases q2:(x.al==al) with
  | false =>
   go_enter Tryz.func118,Tryz.ntmps118
   go_upto_region 1 with fail
   rw[HW.out]
   go_wp2_with fail
   go_ret
   exact⟨rfl,HB⟩
  | true =>
   cases q3:((x.l.length:Int)==l) with
   | false =>
    go_enter Tryz.func118,Tryz.ntmps118
    go_upto_region 1 with fail
    rw[HW.out]
    go_wp2_with fail
    go_ret
    exact⟨rfl,HB⟩
   | true =>
    go_enter Tryz.func118,Tryz.ntmps118
    go_upto_region 1 with fail
    rw[HW.out]
    go_wp2_with fail
    go_ret
    exact⟨rfl,HB⟩
theorem far1_any (n:Nat) (w:World):Calls Tryz.prog 122 #[.int .u64 (n:Int)] w fun e w'=>e=.returned (.bool (!small n))∧w=w':=by
 have HS:=hide (fun W=>small_any n W)
 go_enter Tryz.func122,Tryz.ntmps122
 go_wp2_with fail
 refine(HS.out _).mono ?_;rintro e w1 ⟨rfl,rfl⟩
 go_wp2_with fail
 go_ret
 exact⟨rfl,rfl⟩
def farI:List Nat→Nat→Int
 | [],_=>-1
 | n::l,i=>if small n then farI l (i+1)else (i:Int)
theorem farI_drop (l:List Nat) {k n:Nat} (hr:l[k]?=some n) (i:Nat):farI (l.drop k) i=if small n then farI (l.drop (k+1)) (i+1)else (i:Int):=by
 obtain⟨j1,j2⟩:=List.getElem?_eq_some_iff.1 hr
 rw[List.drop_eq_getElem_cons j1,j2]
 rfl
theorem farI_any (l:List Nat):∀i,decide ((0:Int)≤farI l i)=!(l.all small):=by
 induction l with
 | nil=>intro i;rfl
 | cons n r ih =>
  intro i
  unfold farI
  cases h:small n with
  | true=>simp only[if_true,List.all_cons,h,Bool.true_and];exact ih (i+1)
  | false=>simp[h]
set_option maxHeartbeats 800000 in
theorem farIdx_any (A:Option Addr) (c:Nat) (l:List Nat) (w:World) (hr:Hid (Reads w w.heap.size 1 A l.length (l.map U))) (hl:l.length≤1000000) :
  Calls Tryz.prog 143 #[.slice A l.length c,.func (.func 122) #[] #[]] w fun e w'=>e=.returned (.int .i64 (farI l 0))∧Hid (Below w.heap.size w w'):=by
 go_enter Tryz.func143,Tryz.ntmps143
 go_wp2_with fail
 go_loopw [4,5,8] (fun r v i w1=>∃k:Nat,r=.int .i64 0∧i=.int .i64 k∧k≤l.length∧Hid (Below w.heap.size w w1)∧Hid (farI l 0=farI (l.drop k) k)) (fun _ _ i _=>l.length-(intOf i).toNat)
 case atStart=>exact⟨0,rfl,rfl,by omega,Below.refl _ _,rfl⟩
 case round =>
  obtain⟨k,rfl,rfl,hk,hbw,hf⟩:=hrel
  by_cases hlt:k<l.length
  ·have hb0:Reads wr w.heap.size 1 A l.length (l.map U):=hr.out.below hbw.out
   obtain⟨ad,n,rfl,hn,u0⟩:=hb0.elem (k:=k) hlt
   unfold U at u0
   have HC:=hide (far1_any n wr)
   have hstep:=farI_drop l hn.out k
   rw[←hf.out]at hstep
   have hki:(k:Int)<(l.length:Int):=by omega
   clear hb0
   cases hq:small n with
   | false =>
    rw[hq,if_neg (by simp)]at hstep
    rw[hq]at HC
    have HS:=hide hstep
    clear hstep hq hf hn
    go_wp2_with fail
    refine HC.out.mono ?_;rintro e w2 ⟨rfl,rfl⟩
    go_wp2_with fail
    go_ret
    exact⟨by rw[HS.out];rfl,hbw⟩
   | true =>
    rw[hq,if_pos rfl]at hstep
    rw[hq]at HC
    have HS:Hid (farI l 0=farI (l.drop (k+1)) (k+1)):=hstep
    clear hstep hq hf hn
    go_wp2_with fail
    refine HC.out.mono ?_;rintro e w2 ⟨rfl,rfl⟩
    clear HC u0
    go_wp2_with fail
    go_roundw
    case rel=>exact⟨k+1,rfl,by go_num,by omega,hbw,HS⟩
    case measure=>simp[intOf]<;>omega
  ·have hnone:Hid (farI l 0=-1):=by
    have:=hf.out
    rw[List.drop_of_length_le (by omega)]at this
    exact this
   clear hf
   go_wp2_with fail
   go_ret
   exact⟨by rw[hnone.out];rfl,hbw⟩
theorem far_any (A:Option Addr) (c:Nat) (l:List Nat) (w:World) (hr:Hid (Reads w w.heap.size 1 A l.length (l.map U))) (hl:l.length≤1000000) :
  Calls Tryz.prog 121 #[.slice A l.length c,.func (.func 122) #[] #[]] w fun e w'=>e=.returned (.bool (!(l.all small)))∧Hid (Below w.heap.size w w'):=by
 have HI:=hide (farIdx_any A c l w hr hl)
 have HA:=hide (farI_any l 0)
 generalize farI l 0=z at HI HA
 go_enter Tryz.func121,Tryz.ntmps121
 go_wp2_with fail
 refine HI.out.mono ?_;rintro e w2 ⟨rfl,h2⟩
 go_wp2_with fail
 go_ret
 exact⟨by rw[←HA.out];rfl,h2⟩
set_option maxRecDepth 100000 in
set_option maxHeartbeats 20000000 in
theorem insRight_any (x:XI) (A:Option Addr) (cl:Nat) (w:World) (hx:Hid x.In) (hr:Hid (Reads w w.heap.size 1 A x.l.length (x.l.map U))) (hl:x.l.length≤1000000) :
  Calls Tryz.prog 98 #[.agg #[.int .i64 x.code,.int .u64 (x.a:Int),.int .u64 (x.b:Int),.int .i64 x.al,.slice A x.l.length cl]] w fun e w'=>e=.returned (.bool (rightX x))∧Hid (Below w.heap.size w w'):=by
 obtain⟨W,hW⟩:∃W,w.alloc (.cells #[.int .i64 x.code,.int .u64 (x.a:Int),.int .u64 (x.b:Int),.int .i64 x.al,.slice A x.l.length cl] 131)=W:=⟨_,rfl⟩
 obtain⟨g,hg⟩:∃g,w.heap.size=g:=⟨_,rfl⟩
 have hb:Below g w W:=by rw[←hW,←hg];exact(Below.refl _ _).alloc (Nat.le_refl _) _
 have hv:XV W g x A cl:=by rw[←hW,←hg];exact xv_new w x A cl
 have hgW:g<W.heap.size:=blk_lt hv.blk
 have hrW:Hid (Reads W W.heap.size 1 A x.l.length (x.l.map U)):=by have:=hr.out;rw[hg]at this;exact(this.below hb).more (by omega)
 have HFO:=hide (form_any x.code (x.a:Int) (x.b:Int) x.al A x.l.length cl W hx.out.c1 hx.out.c2)
 obtain⟨l0,l1,l2,l3,l4⟩:=hv.cs
 have HB:=hide hb;have HW:=hide hW;have HG:=hide hg;have HV:=hide hv
 clear hb hW hg hv hr
 go_enter Tryz.func98,Tryz.ntmps98
 go_upto_region 1 with fail
 rw[HW.out,HG.out]
 go_wp2_with fail
 refine HFO.out.mono ?_;rintro e w1 ⟨rfl,h1⟩
 have HV1:=hide (HV.out.below h1.out hgW)
 have HB1:Hid (Below g w w1):=HB.out.trans (h1.out.mono (by omega))
 have hr1:Hid (Reads w1 w1.heap.size 1 A x.l.length (x.l.map U)):=(hrW.out.below h1.out).more h1.out.size
 have hg1:g<w1.heap.size:=by have:=h1.out.size;omega
 clear l0 l1 l2 l3 l4 HFO HV HB hrW HW
 obtain⟨l0,l1,l2,l3,l4⟩:=HV1.out.cs
 cases ho:opRow x.code with
 | none =>
  have hv1:formV x.code=-1:=by unfold formV;rw[ho]
  have hrx:rightX x=false:=by unfold rightX;rw[ho];rfl
  have HQ:=hide hrx
  rw[hv1]
  clear ho hv1 hrx
  go_wp2_with fail
  go_ret
  exact⟨by rw[HQ.out];rfl,by rw[HG.out];exact HB1.out⟩
 | some r =>
  have hv1:formV x.code=refForm x.code:=formV_ref (by rw[ho];rfl)
  have hrx:rightX x=rightF (refForm x.code) x:=by unfold rightX;rw[ho];rfl
  rw[hv1]
  have hfb:=refForm_bd x.code
  clear ho hv1
  generalize refForm x.code=f at hfb hrx ⊢
  rcases hfb with rfl|rfl|rfl|rfl|rfl|rfl|rfl|rfl|rfl|rfl|rfl|rfl
  ·have hq:=rf0 x
   have HQ:=hide (hrx.trans hq)
   clear hrx
   have HBA:=hide (bare_any x A cl 0 0 0 w1)
   have e0:((x.a:Int)==0)=(x.a==0):=by rw[Bool.eq_iff_iff];simp
   cases q:(x.a==0) with
   | false =>
    rw[q]at e0
    have Q:=hide q
    clear q hq
    go_wp2_with fail
    go_ret
    exact⟨by first|(rw[HQ.out,Q1.out,Q2.out,Q3.out,Q4.out];rfl)|(rw[HQ.out,Q1.out,Q2.out,Q3.out];rfl)|(rw[HQ.out,Q0.out,Q1.out];rfl)|(rw[HQ.out,Q1.out,Q2.out];rfl)|(rw[HQ.out,Q0.out];rfl)|(rw[HQ.out,Q1.out];rfl)|(rw[HQ.out,Q.out];rfl)|(rw[HQ.out];rfl),by rw[HG.out];exact HB1.out⟩
   | true =>
    rw[q]at e0
    have Q:=hide q
    clear q hq
    go_wp2_with fail
    refine HBA.out.mono ?_;rintro e w2 ⟨rfl,h2⟩
    clear l0 l1 l2 l3 l4
    go_wp2_with fail
    go_ret
    exact⟨by first|(rw[HQ.out,Q1.out,Q2.out,Q3.out,Q4.out];rfl)|(rw[HQ.out,Q1.out,Q2.out,Q3.out];rfl)|(rw[HQ.out,Q0.out,Q1.out];rfl)|(rw[HQ.out,Q1.out,Q2.out];rfl)|(rw[HQ.out,Q0.out];rfl)|(rw[HQ.out,Q1.out];rfl)|(rw[HQ.out,Q.out];rfl)|(rw[HQ.out];rfl),by rw[HG.out];exact HB1.out.trans (h2.out.mono (by omega))⟩
  ·have hq:=rf1 x
   have HQ:=hide (hrx.trans hq)
   clear hrx
   have HS:=hide (blocked_any (x.a:Int) w1)
   have hbl:blockedL (x.a:Int)=blocked x.a:=by unfold blockedL blocked;rw[Bool.eq_iff_iff];simp;omega
   rw[hbl]at HS
   clear hbl
   have HBA:=hide (bare_any x A cl 0 0 0 w1)
   clear hq
   cases q:blocked x.a with
   | false =>
    rw[q]at HS
    have Q:=hide q
    clear q
    go_wp2_with fail
    refine HS.out.mono ?_;rintro e w2 ⟨rfl,rfl⟩
    go_wp2_with fail
    go_ret
    exact⟨by first|(rw[HQ.out,Q1.out,Q2.out,Q3.out,Q4.out];rfl)|(rw[HQ.out,Q1.out,Q2.out,Q3.out];rfl)|(rw[HQ.out,Q0.out,Q1.out];rfl)|(rw[HQ.out,Q1.out,Q2.out];rfl)|(rw[HQ.out,Q0.out];rfl)|(rw[HQ.out,Q1.out];rfl)|(rw[HQ.out,Q.out];rfl)|(rw[HQ.out];rfl),by rw[HG.out];exact HB1.out⟩
   | true =>
    rw[q]at HS
    have Q:=hide q
    clear q
    go_wp2_with fail
    refine HS.out.mono ?_;rintro e w2 ⟨rfl,rfl⟩
    go_wp2_with fail
    refine HBA.out.mono ?_;rintro e w2 ⟨rfl,h2⟩
    clear l0 l1 l2 l3 l4
    go_wp2_with fail
    go_ret
    exact⟨by first|(rw[HQ.out,Q1.out,Q2.out,Q3.out,Q4.out];rfl)|(rw[HQ.out,Q1.out,Q2.out,Q3.out];rfl)|(rw[HQ.out,Q0.out,Q1.out];rfl)|(rw[HQ.out,Q1.out,Q2.out];rfl)|(rw[HQ.out,Q0.out];rfl)|(rw[HQ.out,Q1.out];rfl)|(rw[HQ.out,Q.out];rfl)|(rw[HQ.out];rfl),by rw[HG.out];exact HB1.out.trans (h2.out.mono (by omega))⟩
  ·have hq:=rf2 x
   have HQ:=hide (hrx.trans hq)
   clear hrx
   have HS:=hide (small_any x.a w1)
   have HBA:=hide (bare_any x A cl 0 0 0 w1)
   clear hq
   cases q:small x.a with
   | false =>
    rw[q]at HS
    have Q:=hide q
    clear q
    go_wp2_with fail
    refine HS.out.mono ?_;rintro e w2 ⟨rfl,rfl⟩
    go_wp2_with fail
    go_ret
    exact⟨by first|(rw[HQ.out,Q1.out,Q2.out,Q3.out,Q4.out];rfl)|(rw[HQ.out,Q1.out,Q2.out,Q3.out];rfl)|(rw[HQ.out,Q0.out,Q1.out];rfl)|(rw[HQ.out,Q1.out,Q2.out];rfl)|(rw[HQ.out,Q0.out];rfl)|(rw[HQ.out,Q1.out];rfl)|(rw[HQ.out,Q.out];rfl)|(rw[HQ.out];rfl),by rw[HG.out];exact HB1.out⟩
   | true =>
    rw[q]at HS
    have Q:=hide q
    clear q
    go_wp2_with fail
    refine HS.out.mono ?_;rintro e w2 ⟨rfl,rfl⟩
    go_wp2_with fail
    refine HBA.out.mono ?_;rintro e w2 ⟨rfl,h2⟩
    clear l0 l1 l2 l3 l4
    go_wp2_with fail
    go_ret
    exact⟨by first|(rw[HQ.out,Q1.out,Q2.out,Q3.out,Q4.out];rfl)|(rw[HQ.out,Q1.out,Q2.out,Q3.out];rfl)|(rw[HQ.out,Q0.out,Q1.out];rfl)|(rw[HQ.out,Q1.out,Q2.out];rfl)|(rw[HQ.out,Q0.out];rfl)|(rw[HQ.out,Q1.out];rfl)|(rw[HQ.out,Q.out];rfl)|(rw[HQ.out];rfl),by rw[HG.out];exact HB1.out.trans (h2.out.mono (by omega))⟩
  ·have hq:=rf3 x
   have HQ:=hide (hrx.trans hq)
   clear hq hrx
   have HFA:=hide (far_any A cl x.l w1 hr1 hl)
   go_wp2_with fail
   refine HFA.out.mono ?_;rintro e w2 ⟨rfl,h2⟩
   clear l0 l1 l2 l3 l4 HFA
   have HV2:=hide (HV1.out.below h2.out hg1)
   have HB2:Hid (Below g w w2):=HB1.out.trans (h2.out.mono (by omega))
   obtain⟨l0,l1,l2,l3,l4⟩:=HV2.out.cs
   have HS:=hide (small_any x.a w2)
   have HBA:=hide (bare_any x A cl 0 0 (x.l.length:Int) w2)
   have hg2:g<w2.heap.size:=by have:=h2.out.size;omega
   cases q1:small x.a with
   | false =>
    rw[q1]at HS
    have Q1:=hide q1
    clear q1
    go_wp2_with fail
    refine HS.out.mono ?_;rintro e w3 ⟨rfl,rfl⟩
    go_wp2_with fail
    go_ret
    exact⟨by first|(rw[HQ.out,Q1.out,Q2.out,Q3.out,Q4.out];rfl)|(rw[HQ.out,Q1.out,Q2.out,Q3.out];rfl)|(rw[HQ.out,Q0.out,Q1.out];rfl)|(rw[HQ.out,Q1.out,Q2.out];rfl)|(rw[HQ.out,Q0.out];rfl)|(rw[HQ.out,Q1.out];rfl)|(rw[HQ.out,Q.out];rfl)|(rw[HQ.out];rfl),by rw[HG.out];exact HB2.out⟩
   | true =>
    rw[q1]at HS
    have Q1:=hide q1
    clear q1
    cases q2:x.l.all small with
    | false =>
     have Q2:=hide q2
     clear q2
     go_wp2_with fail
     refine HS.out.mono ?_;rintro e w3 ⟨rfl,rfl⟩
     go_wp2_with fail
     go_ret
     exact⟨by first|(rw[HQ.out,Q1.out,Q2.out,Q3.out,Q4.out];rfl)|(rw[HQ.out,Q1.out,Q2.out,Q3.out];rfl)|(rw[HQ.out,Q0.out,Q1.out];rfl)|(rw[HQ.out,Q1.out,Q2.out];rfl)|(rw[HQ.out,Q0.out];rfl)|(rw[HQ.out,Q1.out];rfl)|(rw[HQ.out,Q.out];rfl)|(rw[HQ.out];rfl),by rw[HG.out];exact HB2.out⟩
    | true =>
     have Q2:=hide q2
     clear q2
     by_cases q3:x.l.length≤100
     ·have e3:decide (x.l.length≤100)=true:=by simpa using q3
      have Q3:=hide e3
      clear e3
      go_wp2_with fail
      refine HS.out.mono ?_;rintro e w3 ⟨rfl,rfl⟩
      go_wp2_with fail
      refine HBA.out.mono ?_;rintro e w4 ⟨rfl,h4⟩
      clear l0 l1 l2 l3 l4
      go_wp2_with fail
      go_ret
      exact⟨by first|(rw[HQ.out,Q1.out,Q2.out,Q3.out,Q4.out];rfl)|(rw[HQ.out,Q1.out,Q2.out,Q3.out];rfl)|(rw[HQ.out,Q0.out,Q1.out];rfl)|(rw[HQ.out,Q1.out,Q2.out];rfl)|(rw[HQ.out,Q0.out];rfl)|(rw[HQ.out,Q1.out];rfl)|(rw[HQ.out,Q.out];rfl)|(rw[HQ.out];rfl),by rw[HG.out];exact HB2.out.trans (h4.out.mono (by omega))⟩
     ·have e3:decide (x.l.length≤100)=false:=by simpa using q3
      have Q3:=hide e3
      clear e3
      go_wp2_with fail
      refine HS.out.mono ?_;rintro e w3 ⟨rfl,rfl⟩
      go_wp2_with fail
      go_ret
      exact⟨by first|(rw[HQ.out,Q1.out,Q2.out,Q3.out,Q4.out];rfl)|(rw[HQ.out,Q1.out,Q2.out,Q3.out];rfl)|(rw[HQ.out,Q0.out,Q1.out];rfl)|(rw[HQ.out,Q1.out,Q2.out];rfl)|(rw[HQ.out,Q0.out];rfl)|(rw[HQ.out,Q1.out];rfl)|(rw[HQ.out,Q.out];rfl)|(rw[HQ.out];rfl),by rw[HG.out];exact HB2.out⟩
  ·have hq:=rf4 x
   have HQ:=hide (hrx.trans hq)
   clear hrx
   have HS:=hide (small_any x.a w1)
   have HBA:=hide (bare_any x A cl 0 0 0 w1)
   clear hq
   cases q:small x.a with
   | false =>
    rw[q]at HS
    have Q:=hide q
    clear q
    go_wp2_with fail
    refine HS.out.mono ?_;rintro e w2 ⟨rfl,rfl⟩
    go_wp2_with fail
    go_ret
    exact⟨by first|(rw[HQ.out,Q1.out,Q2.out,Q3.out,Q4.out];rfl)|(rw[HQ.out,Q1.out,Q2.out,Q3.out];rfl)|(rw[HQ.out,Q0.out,Q1.out];rfl)|(rw[HQ.out,Q1.out,Q2.out];rfl)|(rw[HQ.out,Q0.out];rfl)|(rw[HQ.out,Q1.out];rfl)|(rw[HQ.out,Q.out];rfl)|(rw[HQ.out];rfl),by rw[HG.out];exact HB1.out⟩
   | true =>
    rw[q]at HS
    have Q:=hide q
    clear q
    go_wp2_with fail
    refine HS.out.mono ?_;rintro e w2 ⟨rfl,rfl⟩
    go_wp2_with fail
    refine HBA.out.mono ?_;rintro e w2 ⟨rfl,h2⟩
    clear l0 l1 l2 l3 l4
    go_wp2_with fail
    go_ret
    exact⟨by first|(rw[HQ.out,Q1.out,Q2.out,Q3.out,Q4.out];rfl)|(rw[HQ.out,Q1.out,Q2.out,Q3.out];rfl)|(rw[HQ.out,Q0.out,Q1.out];rfl)|(rw[HQ.out,Q1.out,Q2.out];rfl)|(rw[HQ.out,Q0.out];rfl)|(rw[HQ.out,Q1.out];rfl)|(rw[HQ.out,Q.out];rfl)|(rw[HQ.out];rfl),by rw[HG.out];exact HB1.out.trans (h2.out.mono (by omega))⟩
  ·have hq:=rf5 x
   have HQ:=hide (hrx.trans hq)
   clear hq hrx
   have HS:=hide (small_any x.a w1)
   have HS2:=hide (small_any x.b w1)
   have HBA:=hide (bare_any x A cl (x.b:Int) 0 0 w1)
   cases q1:small x.a with
   | false =>
    rw[q1]at HS
    have Q1:=hide q1
    clear q1
    go_wp2_with fail
    refine HS.out.mono ?_;rintro e w3 ⟨rfl,rfl⟩
    go_wp2_with fail
    go_ret
    exact⟨by first|(rw[HQ.out,Q1.out,Q2.out,Q3.out,Q4.out];rfl)|(rw[HQ.out,Q1.out,Q2.out,Q3.out];rfl)|(rw[HQ.out,Q0.out,Q1.out];rfl)|(rw[HQ.out,Q1.out,Q2.out];rfl)|(rw[HQ.out,Q0.out];rfl)|(rw[HQ.out,Q1.out];rfl)|(rw[HQ.out,Q.out];rfl)|(rw[HQ.out];rfl),by rw[HG.out];exact HB1.out⟩
   | true =>
    rw[q1]at HS
    have Q1:=hide q1
    clear q1
    cases q2:small x.b with
    | false =>
     rw[q2]at HS2
     have Q2:=hide q2
     clear q2
     go_wp2_with fail
     refine HS.out.mono ?_;rintro e w3 ⟨rfl,rfl⟩
     go_wp2_with fail
     refine HS2.out.mono ?_;rintro e w3 ⟨rfl,rfl⟩
     go_wp2_with fail
     go_ret
     exact⟨by first|(rw[HQ.out,Q1.out,Q2.out,Q3.out,Q4.out];rfl)|(rw[HQ.out,Q1.out,Q2.out,Q3.out];rfl)|(rw[HQ.out,Q0.out,Q1.out];rfl)|(rw[HQ.out,Q1.out,Q2.out];rfl)|(rw[HQ.out,Q0.out];rfl)|(rw[HQ.out,Q1.out];rfl)|(rw[HQ.out,Q.out];rfl)|(rw[HQ.out];rfl),by rw[HG.out];exact HB1.out⟩
    | true =>
     rw[q2]at HS2
     have Q2:=hide q2
     clear q2
     go_wp2_with fail
     refine HS.out.mono ?_;rintro e w3 ⟨rfl,rfl⟩
     go_wp2_with fail
     refine HS2.out.mono ?_;rintro e w3 ⟨rfl,rfl⟩
     go_wp2_with fail
     refine HBA.out.mono ?_;rintro e w2 ⟨rfl,h2⟩
     clear l0 l1 l2 l3 l4
     go_wp2_with fail
     go_ret
     exact⟨by first|(rw[HQ.out,Q1.out,Q2.out,Q3.out,Q4.out];rfl)|(rw[HQ.out,Q1.out,Q2.out,Q3.out];rfl)|(rw[HQ.out,Q0.out,Q1.out];rfl)|(rw[HQ.out,Q1.out,Q2.out];rfl)|(rw[HQ.out,Q0.out];rfl)|(rw[HQ.out,Q1.out];rfl)|(rw[HQ.out,Q.out];rfl)|(rw[HQ.out];rfl),by rw[HG.out];exact HB1.out.trans (h2.out.mono (by omega))⟩
  ·have hq:=rf6 x
   have HQ:=hide (hrx.trans hq)
   clear hrx
   have HS:=hide (small_any x.a w1)
   have HBA:=hide (bare_any x A cl 0 0 0 w1)
   clear hq
   cases q:small x.a with
   | false =>
    rw[q]at HS
    have Q:=hide q
    clear q
    go_wp2_with fail
    refine HS.out.mono ?_;rintro e w2 ⟨rfl,rfl⟩
    go_wp2_with fail
    go_ret
    exact⟨by first|(rw[HQ.out,Q1.out,Q2.out,Q3.out,Q4.out];rfl)|(rw[HQ.out,Q1.out,Q2.out,Q3.out];rfl)|(rw[HQ.out,Q0.out,Q1.out];rfl)|(rw[HQ.out,Q1.out,Q2.out];rfl)|(rw[HQ.out,Q0.out];rfl)|(rw[HQ.out,Q1.out];rfl)|(rw[HQ.out,Q.out];rfl)|(rw[HQ.out];rfl),by rw[HG.out];exact HB1.out⟩
   | true =>
    rw[q]at HS
    have Q:=hide q
    clear q
    go_wp2_with fail
    refine HS.out.mono ?_;rintro e w2 ⟨rfl,rfl⟩
    go_wp2_with fail
    refine HBA.out.mono ?_;rintro e w2 ⟨rfl,h2⟩
    clear l0 l1 l2 l3 l4
    go_wp2_with fail
    go_ret
    exact⟨by first|(rw[HQ.out,Q1.out,Q2.out,Q3.out,Q4.out];rfl)|(rw[HQ.out,Q1.out,Q2.out,Q3.out];rfl)|(rw[HQ.out,Q0.out,Q1.out];rfl)|(rw[HQ.out,Q1.out,Q2.out];rfl)|(rw[HQ.out,Q0.out];rfl)|(rw[HQ.out,Q1.out];rfl)|(rw[HQ.out,Q.out];rfl)|(rw[HQ.out];rfl),by rw[HG.out];exact HB1.out.trans (h2.out.mono (by omega))⟩
  ·have hq:=rf7 x
   have HQ:=hide (hrx.trans hq)
   clear hrx
   have HS:=hide (small_any x.a w1)
   have HBA:=hide (bare_any x A cl 0 0 0 w1)
   clear hq
   cases q:small x.a with
   | false =>
    rw[q]at HS
    have Q:=hide q
    clear q
    go_wp2_with fail
    refine HS.out.mono ?_;rintro e w2 ⟨rfl,rfl⟩
    go_wp2_with fail
    go_ret
    exact⟨by first|(rw[HQ.out,Q1.out,Q2.out,Q3.out,Q4.out];rfl)|(rw[HQ.out,Q1.out,Q2.out,Q3.out];rfl)|(rw[HQ.out,Q0.out,Q1.out];rfl)|(rw[HQ.out,Q1.out,Q2.out];rfl)|(rw[HQ.out,Q0.out];rfl)|(rw[HQ.out,Q1.out];rfl)|(rw[HQ.out,Q.out];rfl)|(rw[HQ.out];rfl),by rw[HG.out];exact HB1.out⟩
   | true =>
    rw[q]at HS
    have Q:=hide q
    clear q
    go_wp2_with fail
    refine HS.out.mono ?_;rintro e w2 ⟨rfl,rfl⟩
    go_wp2_with fail
    refine HBA.out.mono ?_;rintro e w2 ⟨rfl,h2⟩
    clear l0 l1 l2 l3 l4
    go_wp2_with fail
    go_ret
    exact⟨by first|(rw[HQ.out,Q1.out,Q2.out,Q3.out,Q4.out];rfl)|(rw[HQ.out,Q1.out,Q2.out,Q3.out];rfl)|(rw[HQ.out,Q0.out,Q1.out];rfl)|(rw[HQ.out,Q1.out,Q2.out];rfl)|(rw[HQ.out,Q0.out];rfl)|(rw[HQ.out,Q1.out];rfl)|(rw[HQ.out,Q.out];rfl)|(rw[HQ.out];rfl),by rw[HG.out];exact HB1.out.trans (h2.out.mono (by omega))⟩
  ·have hq:=rf8 x
   have HQ:=hide (hrx.trans hq)
   clear hq hrx
   have HS:=hide (small_any x.a w1)
   cases q1:small x.a with
   | false =>
    rw[q1]at HS
    have Q1:=hide q1
    clear q1
    go_wp2_with fail
    refine HS.out.mono ?_;rintro e w3 ⟨rfl,rfl⟩
    go_wp2_with fail
    go_ret
    exact⟨by first|(rw[HQ.out,Q1.out,Q2.out,Q3.out,Q4.out];rfl)|(rw[HQ.out,Q1.out,Q2.out,Q3.out];rfl)|(rw[HQ.out,Q0.out,Q1.out];rfl)|(rw[HQ.out,Q1.out,Q2.out];rfl)|(rw[HQ.out,Q0.out];rfl)|(rw[HQ.out,Q1.out];rfl)|(rw[HQ.out,Q.out];rfl)|(rw[HQ.out];rfl),by rw[HG.out];exact HB1.out⟩
   | true =>
    rw[q1]at HS
    have Q1:=hide q1
    clear q1
    cases q2:decide (0≤x.al) with
    | false =>
     have Q2:=hide q2
     go_wp2_with fail
     refine HS.out.mono ?_;rintro e w3 ⟨rfl,rfl⟩
     go_wp2_with fail
     go_ret
     exact⟨by first|(rw[HQ.out,Q1.out,Q2.out,Q3.out,Q4.out];rfl)|(rw[HQ.out,Q1.out,Q2.out,Q3.out];rfl)|(rw[HQ.out,Q0.out,Q1.out];rfl)|(rw[HQ.out,Q1.out,Q2.out];rfl)|(rw[HQ.out,Q0.out];rfl)|(rw[HQ.out,Q1.out];rfl)|(rw[HQ.out,Q.out];rfl)|(rw[HQ.out];rfl),by rw[HG.out];exact HB1.out⟩
    | true =>
     have Q2:=hide q2
     cases q3:decide (x.al≤31) with
     | false =>
      have Q3:=hide q3
      go_wp2_with fail
      refine HS.out.mono ?_;rintro e w3 ⟨rfl,rfl⟩
      go_wp2_with fail
      go_ret
      exact⟨by first|(rw[HQ.out,Q1.out,Q2.out,Q3.out,Q4.out];rfl)|(rw[HQ.out,Q1.out,Q2.out,Q3.out];rfl)|(rw[HQ.out,Q0.out,Q1.out];rfl)|(rw[HQ.out,Q1.out,Q2.out];rfl)|(rw[HQ.out,Q0.out];rfl)|(rw[HQ.out,Q1.out];rfl)|(rw[HQ.out,Q.out];rfl)|(rw[HQ.out];rfl),by rw[HG.out];exact HB1.out⟩
     | true =>
      have Q3:=hide q3
      cases q4:((x.l.length:Int)==0) with
      | false =>
       have Q4:=hide q4
       go_wp2_with fail
       refine HS.out.mono ?_;rintro e w3 ⟨rfl,rfl⟩
       go_wp2_with fail
       go_ret
       exact⟨by first|(rw[HQ.out,Q1.out,Q2.out,Q3.out,Q4.out];rfl)|(rw[HQ.out,Q1.out,Q2.out,Q3.out];rfl)|(rw[HQ.out,Q0.out,Q1.out];rfl)|(rw[HQ.out,Q1.out,Q2.out];rfl)|(rw[HQ.out,Q0.out];rfl)|(rw[HQ.out,Q1.out];rfl)|(rw[HQ.out,Q.out];rfl)|(rw[HQ.out];rfl),by rw[HG.out];exact HB1.out⟩
      | true =>
       have Q4:=hide q4
       go_wp2_with fail
       refine HS.out.mono ?_;rintro e w3 ⟨rfl,rfl⟩
       go_wp2_with fail
       go_ret
       exact⟨by first|(rw[HQ.out,Q1.out,Q2.out,Q3.out,Q4.out];rfl)|(rw[HQ.out,Q1.out,Q2.out,Q3.out];rfl)|(rw[HQ.out,Q0.out,Q1.out];rfl)|(rw[HQ.out,Q1.out,Q2.out];rfl)|(rw[HQ.out,Q0.out];rfl)|(rw[HQ.out,Q1.out];rfl)|(rw[HQ.out,Q.out];rfl)|(rw[HQ.out];rfl),by rw[HG.out];exact HB1.out⟩
  ·have hq:=rf9 x
   have HQ:=hide (hrx.trans hq)
   clear hrx
   have HS:=hide (small_any x.a w1)
   have HBA:=hide (bare_any x A cl 0 0 0 w1)
   clear hq
   cases q:small x.a with
   | false =>
    rw[q]at HS
    have Q:=hide q
    clear q
    go_wp2_with fail
    refine HS.out.mono ?_;rintro e w2 ⟨rfl,rfl⟩
    go_wp2_with fail
    go_ret
    exact⟨by first|(rw[HQ.out,Q1.out,Q2.out,Q3.out,Q4.out];rfl)|(rw[HQ.out,Q1.out,Q2.out,Q3.out];rfl)|(rw[HQ.out,Q0.out,Q1.out];rfl)|(rw[HQ.out,Q1.out,Q2.out];rfl)|(rw[HQ.out,Q0.out];rfl)|(rw[HQ.out,Q1.out];rfl)|(rw[HQ.out,Q.out];rfl)|(rw[HQ.out];rfl),by rw[HG.out];exact HB1.out⟩
   | true =>
    rw[q]at HS
    have Q:=hide q
    clear q
    go_wp2_with fail
    refine HS.out.mono ?_;rintro e w2 ⟨rfl,rfl⟩
    go_wp2_with fail
    refine HBA.out.mono ?_;rintro e w2 ⟨rfl,h2⟩
    clear l0 l1 l2 l3 l4
    go_wp2_with fail
    go_ret
    exact⟨by first|(rw[HQ.out,Q1.out,Q2.out,Q3.out,Q4.out];rfl)|(rw[HQ.out,Q1.out,Q2.out,Q3.out];rfl)|(rw[HQ.out,Q0.out,Q1.out];rfl)|(rw[HQ.out,Q1.out,Q2.out];rfl)|(rw[HQ.out,Q0.out];rfl)|(rw[HQ.out,Q1.out];rfl)|(rw[HQ.out,Q.out];rfl)|(rw[HQ.out];rfl),by rw[HG.out];exact HB1.out.trans (h2.out.mono (by omega))⟩
  ·have hq:=rf10 x
   have HQ:=hide (hrx.trans hq)
   clear hq hrx
   have HS:=hide (small_any x.a w1)
   have HS2:=hide (small_any x.b w1)
   have HBA:=hide (bare_any x A cl (x.b:Int) 0 0 w1)
   cases q1:small x.a with
   | false =>
    rw[q1]at HS
    have Q1:=hide q1
    clear q1
    go_wp2_with fail
    refine HS.out.mono ?_;rintro e w3 ⟨rfl,rfl⟩
    go_wp2_with fail
    go_ret
    exact⟨by first|(rw[HQ.out,Q1.out,Q2.out,Q3.out,Q4.out];rfl)|(rw[HQ.out,Q1.out,Q2.out,Q3.out];rfl)|(rw[HQ.out,Q0.out,Q1.out];rfl)|(rw[HQ.out,Q1.out,Q2.out];rfl)|(rw[HQ.out,Q0.out];rfl)|(rw[HQ.out,Q1.out];rfl)|(rw[HQ.out,Q.out];rfl)|(rw[HQ.out];rfl),by rw[HG.out];exact HB1.out⟩
   | true =>
    rw[q1]at HS
    have Q1:=hide q1
    clear q1
    cases q2:small x.b with
    | false =>
     rw[q2]at HS2
     have Q2:=hide q2
     clear q2
     go_wp2_with fail
     refine HS.out.mono ?_;rintro e w3 ⟨rfl,rfl⟩
     go_wp2_with fail
     refine HS2.out.mono ?_;rintro e w3 ⟨rfl,rfl⟩
     go_wp2_with fail
     go_ret
     exact⟨by first|(rw[HQ.out,Q1.out,Q2.out,Q3.out,Q4.out];rfl)|(rw[HQ.out,Q1.out,Q2.out,Q3.out];rfl)|(rw[HQ.out,Q0.out,Q1.out];rfl)|(rw[HQ.out,Q1.out,Q2.out];rfl)|(rw[HQ.out,Q0.out];rfl)|(rw[HQ.out,Q1.out];rfl)|(rw[HQ.out,Q.out];rfl)|(rw[HQ.out];rfl),by rw[HG.out];exact HB1.out⟩
    | true =>
     rw[q2]at HS2
     have Q2:=hide q2
     clear q2
     go_wp2_with fail
     refine HS.out.mono ?_;rintro e w3 ⟨rfl,rfl⟩
     go_wp2_with fail
     refine HS2.out.mono ?_;rintro e w3 ⟨rfl,rfl⟩
     go_wp2_with fail
     refine HBA.out.mono ?_;rintro e w2 ⟨rfl,h2⟩
     clear l0 l1 l2 l3 l4
     go_wp2_with fail
     go_ret
     exact⟨by first|(rw[HQ.out,Q1.out,Q2.out,Q3.out,Q4.out];rfl)|(rw[HQ.out,Q1.out,Q2.out,Q3.out];rfl)|(rw[HQ.out,Q0.out,Q1.out];rfl)|(rw[HQ.out,Q1.out,Q2.out];rfl)|(rw[HQ.out,Q0.out];rfl)|(rw[HQ.out,Q1.out];rfl)|(rw[HQ.out,Q.out];rfl)|(rw[HQ.out];rfl),by rw[HG.out];exact HB1.out.trans (h2.out.mono (by omega))⟩
  ·have hq:=rf11 x
   have HQ:=hide (hrx.trans hq)
   clear hq hrx
   have HS:=hide (small_any x.a w1)
   have HBA:=hide (bare_any x A cl 0 0 0 w1)
   cases q0:(x.code==66) with
   | true =>
    have Q0:=hide q0
    go_wp2_with fail
    refine HBA.out.mono ?_;rintro e w2 ⟨rfl,h2⟩
    clear l0 l1 l2 l3 l4
    go_wp2_with fail
    go_ret
    exact⟨by first|(rw[HQ.out,Q1.out,Q2.out,Q3.out,Q4.out];rfl)|(rw[HQ.out,Q1.out,Q2.out,Q3.out];rfl)|(rw[HQ.out,Q0.out,Q1.out];rfl)|(rw[HQ.out,Q1.out,Q2.out];rfl)|(rw[HQ.out,Q0.out];rfl)|(rw[HQ.out,Q1.out];rfl)|(rw[HQ.out,Q.out];rfl)|(rw[HQ.out];rfl),by rw[HG.out];exact HB1.out.trans (h2.out.mono (by omega))⟩
   | false =>
    have Q0:=hide q0
    cases q1:small x.a with
    | false =>
     rw[q1]at HS
     have Q1:=hide q1
     clear q1
     go_wp2_with fail
     refine HS.out.mono ?_;rintro e w3 ⟨rfl,rfl⟩
     go_wp2_with fail
     go_ret
     exact⟨by first|(rw[HQ.out,Q1.out,Q2.out,Q3.out,Q4.out];rfl)|(rw[HQ.out,Q1.out,Q2.out,Q3.out];rfl)|(rw[HQ.out,Q0.out,Q1.out];rfl)|(rw[HQ.out,Q1.out,Q2.out];rfl)|(rw[HQ.out,Q0.out];rfl)|(rw[HQ.out,Q1.out];rfl)|(rw[HQ.out,Q.out];rfl)|(rw[HQ.out];rfl),by rw[HG.out];exact HB1.out⟩
    | true =>
     rw[q1]at HS
     have Q1:=hide q1
     clear q1
     go_wp2_with fail
     refine HS.out.mono ?_;rintro e w3 ⟨rfl,rfl⟩
     go_wp2_with fail
     refine HBA.out.mono ?_;rintro e w2 ⟨rfl,h2⟩
     clear l0 l1 l2 l3 l4
     go_wp2_with fail
     go_ret
     exact⟨by first|(rw[HQ.out,Q1.out,Q2.out,Q3.out,Q4.out];rfl)|(rw[HQ.out,Q1.out,Q2.out,Q3.out];rfl)|(rw[HQ.out,Q0.out,Q1.out];rfl)|(rw[HQ.out,Q1.out,Q2.out];rfl)|(rw[HQ.out,Q0.out];rfl)|(rw[HQ.out,Q1.out];rfl)|(rw[HQ.out,Q.out];rfl)|(rw[HQ.out];rfl),by rw[HG.out];exact HB1.out.trans (h2.out.mono (by omega))⟩
end Go.Proofs.YtomppgohoplemaaGreat
