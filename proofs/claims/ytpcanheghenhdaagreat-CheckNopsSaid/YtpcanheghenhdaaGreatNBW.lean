import Derived.Test.YtpcanheghenhdaaGreatNBV
import Derived.Test.YtpcanheghenhdaaGreatNAT
import Derived.Deep.DeepCutAuto
import Derived.Deep.CutBlock
set_option linter.unusedVariables false
namespace Go.Proofs.YtpcanheghenhdaaGreat
open Go.RowKit
set_option maxRecDepth 100000 in
set_option maxHeartbeats 6400000 in
theorem checknops_any (m:MoL) (f at_:Int) (w:World) (ml:Int) (h:Hid (MoIn w m)) (hr:Hid (MoRe m)) (hat:0≤at_∧at_≤255) (hml:Hid (w.cell? ⟨0,0,none⟩=some (.int .i64 ml))) :
  Calls Tryz.prog 3 #[.agg m.cs.toArray,.int .i64 f,.int .u8 at_] w fun e w'=>e=.returned (.bool true)∧Hid (Below w.heap.size w w'):=by
 obtain⟨W,xg,hW,hxg,hb,hin⟩:=lawIn_of h.out hml.out
 have HIN:=hide hin;have HW:=hide hW;have HXG:=hide hxg;have HB:=hide hb
 clear hW hxg hb hin
 have HG:Hid (∀V,Below W.heap.size W V→Calls Tryz.prog 9 #[.agg #[.slice m.sigs.at_ m.sigs.l.length m.sigs.cap,.slice m.imps.at_ m.imps.l.length m.imps.cap,.slice m.funcs.at_ m.funcs.l.length m.funcs.cap,.int .i64 m.table,.slice m.mems.at_ m.mems.l.length m.mems.cap,.slice m.gls.at_ m.gls.l.length m.gls.cap,.slice m.exs.at_ m.exs.l.length m.exs.cap,.int .i64 m.start,.slice m.els.at_ m.els.l.length m.els.cap,.slice m.das.at_ m.das.l.length m.das.cap]] V (GreatM m V)):=fun V hV=>lgreat_any m V (hide (HIN.out.cells V hV).2.1) hr
 have HA:Hid (∀V,Below W.heap.size W V→Calls Tryz.prog 10 #[] V fun e w'=>e=.returned (.bool true)∧Hid (Below V.heap.size V w')):=fun V hV=>awake16 V ml (hide (HIN.out.cells V hV).2.2)
 unfold MoL.cs Sl.val at HW ⊢
 go_enter Tryz.func3,Tryz.ntmps3
 go_upto_region 1 with fail
 rw[HW.out,HXG.out]
 obtain⟨⟨c0,c1,c2,c3,c4,c5,c6,c7,c8,c9⟩,_,_⟩:=HIN.out.cells W (Below.refl _ _)
 go_wp2_with fail
 refine(HG.out W (Below.refl _ _)).mono ?_;rintro e w1 ⟨x,rfl,hgs,hb1⟩
 clear c0 c1 c2 c3 c4 c5 c6 c7 c8 c9
 have hx0:=hgs.out.1
 by_cases hx:0<x
 ·have hgt:decide ((0:Int)<x)=true:=decide_eq_true hx
  clear hx0
  go_wp2_with fail
  refine(HA.out w1 hb1.out).mono ?_;rintro e w2 ⟨rfl,hb2⟩
  go_wp2_with fail
  go_ret
  exact⟨rfl,HB.out.trans ((hb1.out.trans (hb2.out.mono hb1.out.size)).mono HB.out.size)⟩
 have hxz:x=0:=by omega
 subst hxz
 have HST:Hid (MoSt m):=hgs.out.2.2 rfl
 have HSM:Hid (MoSm m):=HST.out.sm
 clear hx hx0 hgs HG
 obtain⟨⟨c0,c1,c2,c3,c4,c5,c6,c7,c8,c9⟩,_,_⟩:=HIN.out.cells w1 hb1.out
 by_cases h12:12<m.funcs.l.length
 ·have hgt:(12:Int)<(m.funcs.l.length:Int):=by omega
  clear h12
  go_wp2_with fail
  refine(HA.out w1 hb1.out).mono ?_;rintro e w2 ⟨rfl,hb2⟩
  go_wp2_with fail
  go_ret
  exact⟨rfl,HB.out.trans ((hb1.out.trans (hb2.out.mono hb1.out.size)).mono HB.out.size)⟩
 have hgt:¬((12:Int)<(m.funcs.l.length:Int)):=by omega
 have h12b:m.funcs.l.length≤12:=by omega
 clear h12
 go_wp2_with fail
 refine(HA.out w1 hb1.out).mono ?_;rintro e w2 ⟨rfl,hb2⟩
 have hB2:=hide (hb1.out.trans (hb2.out.mono hb1.out.size))
 clear c0 c1 c2 c3 c4 c5 c6 c7 c8 c9 hb1 hb2 HA
 by_cases hf0:f<0
 ·go_wp2_with fail
  go_ret
  exact⟨rfl,HB.out.trans (hB2.out.mono HB.out.size)⟩
 obtain⟨⟨c0,c1,c2,c3,c4,c5,c6,c7,c8,c9⟩,hin2,_⟩:=HIN.out.cells w2 hB2.out
 by_cases hf1:(m.funcs.l.length:Int)≤f
 ·go_wp2_with fail
  go_ret
  exact⟨rfl,HB.out.trans (hB2.out.mono HB.out.size)⟩
 obtain⟨k,rfl⟩:∃k:Nat,f=(k:Int):=⟨f.toNat,by omega⟩
 have hk:k<m.funcs.l.length:=by omega
 obtain⟨y,hy⟩:∃y,m.funcs.l[k]?=some y:=⟨_,List.getElem?_eq_getElem hk⟩
 have HY:=hide hy
 obtain⟨ad,ha,_,k0,kj⟩:=hin2.funcs.at_ (fun _=>rfl) hy
 have HAD:=hide ha
 have u2:w2.cell? ⟨(ad.add (k*3)).block,(ad.add (k*3)).off+2,none⟩=some (.slice y.bd.l.at_ y.bd.l.l.length y.bd.l.cap):=kj 2 (by omega) (by omega) _ rfl
 have hklt:(k:Int)<(m.funcs.l.length:Int):=by omega
 rw[ha]at c2
 obtain⟨n,hn⟩:∃n,y.bd.l.l.length=n:=⟨_,rfl⟩
 have HN:=hide hn
 have hn150:n≤150:=by rw[←hn];exact(HST.out.func y (List.mem_of_getElem? hy)).l
 rw[hn]at u2
 clear hf0 hf1 hy ha k0 kj hin2 hn hk
 by_cases hn0:n=0
 ·subst hn0
  go_wp2_with fail
  go_ret
  exact⟨rfl,HB.out.trans (hB2.out.mono HB.out.size)⟩
 have hnz:((n:Int)==0)=false:=by simp;omega
 have HTO:=hide (fun (V:World) (hV:Below W.heap.size W V)=>lto_any m V (hide (HIN.out.cells V hV).2.1) HSM)
 unfold MoL.cs Sl.val at HTO
 rw[HAD.out]at HTO
 go_wp2_with fail
 refine(HTO.out w2 hB2.out).mono ?_;rintro e w3 ⟨g1,m1,rfl,hM1,hg1,hs1,hb3⟩
 have hB3:=hide (hB2.out.trans (hb3.out.mono hB2.out.size))
 clear c0 c1 c2 c3 c4 c5 c6 c7 c8 c9 u2 hb3
 obtain⟨⟨c0,c1,c2,c3,c4,c5,c6,c7,c8,c9⟩,hin3,_⟩:=HIN.out.cells w3 hB3.out
 obtain⟨ad9,ha9,_,_,kj⟩:=hin3.funcs.at_ (fun _=>rfl) HY.out
 rw[HAD.out]at ha9;injection ha9 with ha9;subst ha9
 have u2:w3.cell? ⟨(ad.add (k*3)).block,(ad.add (k*3)).off+2,none⟩=some (.slice y.bd.l.at_ y.bd.l.l.length y.bd.l.cap):=kj 2 (by omega) (by omega) _ rfl
 rw[HAD.out]at c2
 rw[HN.out]at u2
 clear kj hin3
 go_upto_region 8 with fail
 obtain⟨j,hj⟩:∃j:Nat,at_%(n:Int)=(j:Int):=⟨(at_%(n:Int)).toNat,(Int.toNat_of_nonneg (Int.emod_nonneg _ (by omega))).symm⟩
 have hjn:j<n:=by have:=Int.emod_lt_of_pos at_ (show (0:Int)<(n:Int) by omega);omega
 rw[hj]
 clear hj
 obtain⟨yg,hyg⟩:∃yg,w3.heap.size=yg:=⟨_,rfl⟩
 obtain⟨W4,hW4,hb4,hx4,hs4⟩:=box_new w3 #[.slice m.sigs.at_ m.sigs.l.length m.sigs.cap,.slice m.imps.at_ m.imps.l.length m.imps.cap,.slice (some ad) m.funcs.l.length m.funcs.cap,.int .i64 m.table,.slice m.mems.at_ m.mems.l.length m.mems.cap,.slice m.gls.at_ m.gls.l.length m.gls.cap,.slice m.exs.at_ m.exs.l.length m.exs.cap,.int .i64 m.start,.slice m.els.at_ m.els.l.length m.els.cap,.slice m.das.at_ m.das.l.length m.das.cap] 31
 obtain⟨W5,hW5,hb5,hx5,hs5⟩:=box_new W4 #[] 39
 rw[hyg]at hx4 hs4 hb4
 rw[hs4]at hx5 hs5 hb5
 have hB5:Below yg w3 W5:=hb4.trans (hb5.mono (by omega))
 have HBY5:Hid (Below yg w3 W5):=hB5
 have hBW5:Below W.heap.size W W5:=hB3.out.trans (hB5.mono (by have:=hB3.out.size;omega))
 have hxgl:xg<yg:=by have:=World.block_lt_of_cell? w3 _ c0;rw[hyg]at this;exact this
 have hx45:=(hb5.block yg (by omega)).trans hx4
 have hown5:Hid (W5.ownsRow (yg+1) 39 3 (.slice (some ⟨yg+1,0,none⟩) 0 0) 0 []):=⟨by simp,.inr ⟨yg+1,0,#[],rfl,Nat.le_refl _,hx5,Nat.le_refl _,by unfold maxLen;omega,by simp,by simp⟩⟩
 have hrd5:Hid (Reads W5 W5.heap.size 3 (some ad) m.funcs.l.length (m.funcs.l.flatMap FuL.cs)):=by
  have:=(HIN.out.cells W5 hBW5).2.1.funcs.r
  rw[HAD.out]at this
  exact this
 have hroom5:Room 0 m.funcs.l.length 56:=room_of (by omega) (by omega)
 have hkN:k<m.funcs.l.length:=by omega
 have HYG:=hide hyg;have HW4:=hide hW4;have HW5:=hide hW5;have HX45:=hide hx45;have HB5:=hide hBW5;have HS4:=hide hs4;have HS5:=hide hs5
 have hxg4:xg<W4.heap.size:=by omega
 have c24:=((HIN.out.cells W4 (hB3.out.trans (hb4.mono (by have:=hB3.out.size;omega)))).1).2.2.1
 rw[HAD.out]at c24
 clear hyg hW4 hb4 hx4 hs4 hW5 hb5 hx5 hs5 hB5 hBW5 hx45 u2
 go_upto_region 9 with fail
 rw[HYG.out,HW4.out]
 clear c0 c1 c2 c3 c4 c5 c6 c7 c8 c9
 go_upto_region 10 with (at_builtin;rw[HW5.out];refine wpList_append_any rfl (.tmp 67) (.tmp 69) rfl (yg+1) qf_elem (.slice (some ⟨W4.heap.size,0,none⟩) 0 0) 0 [] rfl (by rw[HS4.out];exact hown5.out) W5.heap.size (some ad) m.funcs.l.length m.funcs.cap (m.funcs.l.flatMap FuL.cs) rfl hrd5.out cs_one hroom5 (by have:=HS5.out;omega) ?_;intro v6 w6 ho6 hg6;rw[Nat.zero_add,List.nil_append]at ho6;have HB6:Hid (Below W.heap.size W w6):=HB5.out.grown hg6.by_ HB5.out.size (fun q hq=>by have:=own_ge hown5.out q (by rw[←HS4.out];exact hq);have:=HYG.out;have:=hB3.out.size;omega);have HBY6:Hid (Below yg w3 w6):=HBY5.out.grown hg6.by_ (by have:=HS5.out;omega) (fun q hq=>by have:=own_ge hown5.out q (by rw[←HS4.out];exact hq);omega);have HX6:=hide ((hg6.only.block yg (blk_lt HX45.out) (fun hm=>by have:=own_ge hown5.out yg (by rw[←HS4.out];simpa using hm);omega)).trans HX45.out);obtain⟨q3,c3,hv6⟩:=own_some ho6 (by omega);subst hv6;have HO6:=hide ho6;have y2:=cell_blk HX6.out 2;have z2:=frozen_blk HX6.out 2;simp at y2;clear ho6 hg6)
 obtain⟨aL,hAL⟩:∃aL,y.bd.l.at_=some aL:=by
  obtain⟨ad,e,_⟩:=((HIN.out.cells W (Below.refl _ _)).2.1.func y (List.mem_of_getElem? HY.out)).2.l.r.2 (by rw[HN.out];omega)
  exact⟨ad,e⟩
 have hq3:yg+1≤q3∧q3<w6.heap.size:=HO6.out.lt q3 rfl
 have hset:Only [yg] w6 (w6.setCell ⟨yg,2,none⟩ (.slice (some ⟨q3,0,none⟩) m.funcs.l.length c3)):=Only.setCell w6 (p:=⟨yg,2,none⟩) (by simp) _
 have hx7:=setCell_blk HX6.out 2 (.slice (some ⟨q3,0,none⟩) m.funcs.l.length c3)
 have ho7:=own_only3 HO6.out hset (fun q hq hm=>by simp[Value.ownBlock]at hq;simp at hm;omega)
 have hwy:W.heap.size≤yg:=by have:=HYG.out;have:=hB3.out.size;omega
 have hb7:Below W.heap.size W (w6.setCell ⟨yg,2,none⟩ (.slice (some ⟨q3,0,none⟩) m.funcs.l.length c3)):=HB6.out.trans (hset.below HB6.out.size (by simp;exact hwy))
 have hby7:Below yg w3 (w6.setCell ⟨yg,2,none⟩ (.slice (some ⟨q3,0,none⟩) m.funcs.l.length c3)):=HBY6.out.trans (hset.below (by have:=HBY6.out.size;have:=HYG.out;omega) (by simp))
 obtain⟨W7,hW7⟩:∃W7,w6.setCell ⟨yg,2,none⟩ (.slice (some ⟨q3,0,none⟩) m.funcs.l.length c3)=W7:=⟨_,rfl⟩
 have hs7:W7.heap.size=w6.heap.size:=by rw[←hW7];simp[World.setCell]
 rw[hW7]at hx7 ho7 hb7 hby7 ⊢
 simp at hx7
 obtain⟨L,hL⟩:∃L,W7.heap.size=L:=⟨_,rfl⟩
 have hLq:q3<L:=by omega
 have hLe:L≤W7.heap.size:=by omega
 have hyq:yg<q3:=by omega
 have HBY7:=hide hby7;have HX7:=hide hx7;have HO7:=hide ho7;have HB7:=hide hb7;have HL:=hide hL;have HAL:=hide hAL
 have HLB:Hid (∀V,LowE L q3 (k*3+2) W7 V→Below W.heap.size W V):=fun V hV=>HB7.out.trans ⟨hV.os,hV.tape,hV.output,hV.size,fun i hi=>hV.block i (by omega) (by omega) (by omega)⟩
 have HX:Hid (∀V,LowE L q3 (k*3+2) W7 V→V.cell? ⟨yg,2,none⟩=some (.slice (some ⟨q3,0,none⟩) m.funcs.l.length c3)∧Reads V V.heap.size 5 (some aL) n (y.bd.l.l.flatMap XL.cs)):=fun V hV=>by
  have h2:W7.cell? ⟨yg,2,none⟩=some (.slice (some ⟨q3,0,none⟩) m.funcs.l.length c3):=by have:=cell_blk HX7.out 2;simpa using this
  refine⟨(World.cell?_of_block (hV.block yg (by omega) (by omega) (by omega))).trans h2,?_⟩
  have h3:=((HIN.out.cells V (HLB.out V hV)).2.1.func y (List.mem_of_getElem? HY.out)).2.l.r
  rw[HAL.out,HN.out]at h3
  exact h3
 have hcapL:n≤y.bd.l.cap:=by
  have h3:=((HIN.out.cells W (Below.refl _ _)).2.1.func y (List.mem_of_getElem? HY.out)).2.l.c
  rw[HN.out]at h3
  exact h3
 have hroomA:Room 0 j 56:=room_of (by omega) (by omega)
 have hroomB:Room j 1 56:=room_of (by omega) (by omega)
 have hroomC:Room (j+1) (n-j) 56:=room_of (by omega) (by omega)
 have hnl:y.bd.l.l.length=n:=HN.out
 have HNL:=hide hnl
 rw[HAL.out]
 clear hW7 hx7 ho7 hb7 hby7 HBY6 HBY5 hs7 hset HO6 HX6 HB6 hL hAL hnl c24 y2 z2 hrd5 hown5 HW4 HW5 HX45 HB5
 refine wp_region_factsD grew_ext (LowE.ext L q3 (k*3+2)) (fun _ _ h=>LowE.of_below h) [10,14,18] 18 (factsOf [fun yy _=>yy=.pointer (some ⟨yg,2,none⟩),
  fun yy _=>yy=.slice (some ⟨q3,0,none⟩) m.funcs.l.length c3,
  fun yy _=>yy=.int .i64 (k:Int),
  fun yy _=>∃q:Nat,yy=.slice (some ⟨q,0,none⟩) 0 0,
  fun yy _=>yy=.slice (some aL) n y.bd.l.cap,
  fun yy _=>yy=.int .i64 (j:Int),
  fun yy _=>yy=.slice (some aL) j y.bd.l.cap,
  fun yy W=>(j=0∧∃q:Nat,yy=.slice (some ⟨q,0,none⟩) 0 0)∨(0<j∧W.ownsRow L 45 5 yy j ((y.bd.l.l.take j).flatMap XL.cs)),
  fun yy _=>yy=.agg #[.int .i64 1,.int .u64 0,.int .u64 0,.int .i64 0,.slice none 0 0],
  fun yy W=>∃q:Nat,yy=.slice (some ⟨q,0,none⟩) 1 1∧L≤q∧W.heap[q]?=some (.cells #[.int .i64 1,.int .u64 0,.int .u64 0,.int .i64 0,.slice none 0 0] 45 (0,0)),
  fun yy W=>W.ownsRow L 45 5 yy (j+1) ((y.bd.l.l.take j).flatMap XL.cs++[.int .i64 1,.int .u64 0,.int .u64 0,.int .i64 0,.slice none 0 0])∧L≤W.heap.size∧W.ownsRow (yg+1) 39 3 (.slice (some ⟨q3,0,none⟩) m.funcs.l.length c3) m.funcs.l.length (m.funcs.l.flatMap FuL.cs),
  fun yy _=>yy=.slice (some aL) n y.bd.l.cap,
  fun yy _=>yy=.int .i64 (j:Int),
  fun yy _=>yy=.slice (some (aL.add (j*5))) (n-j) (y.bd.l.cap-j),
  fun yy W=>W.ownsRow L 45 5 yy (j+1+(n-j)) (((y.bd.l.l.take j).flatMap XL.cs++[.int .i64 1,.int .u64 0,.int .u64 0,.int .i64 0,.slice none 0 0])++(y.bd.l.l.drop j).flatMap XL.cs)∧L≤W.heap.size∧W.ownsRow (yg+1) 39 3 (.slice (some ⟨q3,0,none⟩) m.funcs.l.length c3) m.funcs.l.length (m.funcs.l.flatMap FuL.cs),
  fun yy _=>yy=.pointer (some ⟨q3,k*3,none⟩),
  fun yy _=>yy=.pointer (some ⟨q3,k*3+1,none⟩),
  fun yy _=>yy=.pointer (some ⟨q3,k*3+1+1,none⟩),
  fun _ W=>∃(A4:Option Addr) (c4:Nat),W.ownsRow (yg+1) 39 3 (.slice (some ⟨q3,0,none⟩) m.funcs.l.length c3) m.funcs.l.length ((m.funcs.l.flatMap FuL.cs).set (k*3+2) (.slice A4 (j+1+(n-j)) c4))∧W.ownsRow L 45 5 (.slice A4 (j+1+(n-j)) c4) (j+1+(n-j)) (((y.bd.l.l.take j).flatMap XL.cs++[.int .i64 1,.int .u64 0,.int .u64 0,.int .i64 0,.slice none 0 0])++(y.bd.l.l.drop j).flatMap XL.cs)]) (by kernel_rfl) (by kernel_rfl) (by kernel_rfl) (by decide) rfl (by decide) (by kernel_rfl) (by intro i v w hd hF;rcases i with _|_|_|_|_|_|_|_|_|_|_|_|_|_|_|_|_|_|_|i<;>first|exact hF|exact absurd hd (by simp)) ?_ ?_
 ·refine⟨?_,?_,?_,?_,?_,?_,?_,?_,?_,?_,?_,?_,?_,?_,?_,?_,?_,?_,?_,trivial⟩
  ·refine ObD.plain (by decide) rfl fun ρ W hk=>?_
   have o10:ρ (.tmp 10)=.pointer (some ⟨yg,0,none⟩):=hk.old 10 (by decide)
   exact OpOut.fieldAddr (x:=.tmp 10) rfl o10 (by go_simp) ⟨Below.refl _ _,rfl⟩
  ·refine ObD.plain (by decide) rfl fun ρ W hk=>?_
   have h0:=(hk.fact 0 72 (by decide) rfl).pure
   obtain⟨e0,e1⟩:=HX.out W hk.below
   exact OpOut.load (x:=.tmp 72) rfl h0 (by go_simp) ⟨Below.refl _ _,rfl⟩
  ·refine ObD.plain (by decide) rfl fun ρ W hk=>?_
   exact OpOut.move (.tmp 1) rfl ⟨Below.refl _ _,hk.old 1 (by decide)⟩
  ·refine ObD.plain (by decide) rfl fun ρ W hk=>?_
   have hbA:Below W.heap.size W (W.alloc (.cells #[] 45)):=(Below.refl _ _).alloc (Nat.le_refl _) _
   exact OpOut.buildSlice (us:=#[]) rfl (by simp) (by go_simp) ⟨hbA,W.heap.size,rfl⟩
  ·refine ObD.plain (by decide) rfl fun ρ W hk=>?_
   exact OpOut.move (.tmp 8) rfl ⟨Below.refl _ _,hk.old 8 (by decide)⟩
  ·refine ObD.plain (by decide) rfl fun ρ W hk=>?_
   exact OpOut.move (.tmp 9) rfl ⟨Below.refl _ _,hk.old 9 (by decide)⟩
  ·refine ObD.plain (by decide) rfl fun ρ W hk=>?_
   have h4:=(hk.fact 4 76 (by decide) rfl).pure
   have h5:=(hk.fact 5 77 (by decide) rfl).pure
   exact OpOut.slTo (x:=.tmp 76) (y:=.tmp 77) rfl h4 h5 (run_uptoI aL n _ j (by omega) hcapL W) ⟨Below.refl _ _,rfl⟩
  ·refine ObD.plain (by decide) rfl fun ρ W hk=>?_
   obtain⟨w3,hw3,q,h3⟩:=hk.fact 3 75 (by decide) rfl
   have h6:=(hk.fact 6 78 (by decide) rfl).pure
   obtain⟨_,e1⟩:=HX.out W hk.below
   have e2:=e1.upto (show j≤n by omega)
   rw[show (y.bd.l.l.flatMap XL.cs).take (j*5)=(y.bd.l.l.take j).flatMap XL.cs from flat_upto (dec:=XL.cs) (fun _=>rfl) _ _]at e2
   obtain⟨v9,w9,hrun,ho9,hb9⟩:=append_void (P:=Tryz.prog) (w:=W) (ty:=35) qi_elem q L W.heap.size (some aL) j y.bd.l.cap _ e2 hroomA (by have:=hk.below.size;omega)
   exact OpOut.append rfl h3 h6 hrun ⟨hb9,ho9.imp (fun h=>⟨h.1,q,h.2⟩) (fun h=>h)⟩
  ·refine ObD.plain (by decide) rfl fun ρ W hk=>?_
   exact OpOut.build (us:=#[(0,.int .i64 1)]) rfl (by simp[hk.const]) (by go_simp) ⟨Below.refl _ _,rfl⟩
  ·refine ObD.plain (by decide) rfl fun ρ W hk=>?_
   have h8:=(hk.fact 8 80 (by decide) rfl).pure
   have hLW:L≤W.heap.size:=by have:=hk.below.size;omega
   have hbA:Below W.heap.size W (W.alloc (.cells #[.int .i64 1,.int .u64 0,.int .u64 0,.int .i64 0,.slice none 0 0] 45)):=(Below.refl _ _).alloc (Nat.le_refl _) _
   exact OpOut.buildSlice (us:=#[(0,.agg #[.int .i64 1,.int .u64 0,.int .u64 0,.int .i64 0,.slice none 0 0])]) rfl (by simp[h8]) (by go_simp) ⟨hbA,W.heap.size,rfl,hLW,heap_alloc_new W _⟩
  ·refine ObD.first rfl rfl fun ρ W hk hk0=>?_
   obtain⟨w7,hw7,h7⟩:=hk0.fact 7 79 (by decide) rfl
   obtain⟨w8,hw8,q,h9,hq,hqb⟩:=hk0.fact 9 81 (by decide) rfl
   have hqW:=(hw8.block q (blk_lt hqb)).trans hqb
   have hLW:L≤W.heap.size:=by have:=hk.below.size;omega
   have how:=own_only3 (S:=[]) HO7.out (Only.of_below hk0.below) (by simp)
   have hone:Reads W W.heap.size 5 (some ⟨q,0,none⟩) 1 [.int .i64 1,.int .u64 0,.int .u64 0,.int .i64 0,.slice none 0 0]:=reads_one hqW rfl
   rcases h7 with ⟨hj0,q7,h7⟩|⟨hj0,h7⟩
   ·obtain⟨v9,w9,hrun,ho9,hb9⟩:=append_void (P:=Tryz.prog) (w:=W) (ty:=35) qi_elem q7 L W.heap.size (some ⟨q,0,none⟩) 1 1 _ hone (room_of (by omega) (by omega)) hLW
    rcases ho9 with ⟨h0,_⟩|⟨_,ho9⟩
    ·omega
    ·refine OpOut.append rfl h7 h9 hrun ⟨LowE.of_below hb9,?_,Nat.le_trans hLW hb9.size,own_only3 (S:=[]) how (Only.of_below hb9) (by simp)⟩
     subst hj0
     simpa using ho9
   ·obtain⟨yv,hyv⟩:∃yv,ρ (.tmp 79)=yv:=⟨_,rfl⟩
    rw[hyv]at h7
    have h7W:=own_only3 (S:=[]) h7 (Only.of_below hw7) (by simp)
    obtain⟨v9,w9,hrun,ho9,hg9⟩:=run_append_any (P:=Tryz.prog) (w:=W) L (ty:=35) qi_elem yv j ((y.bd.l.l.take j).flatMap XL.cs) h7W W.heap.size (some ⟨q,0,none⟩) 1 1 _ hone (by simp[Value.oneCell']) hroomB hLW
    exact OpOut.append rfl hyv h9 hrun ⟨LowE.grows hg9 (fun q hq=>by have:=own_ge h7W q hq;omega),ho9,Nat.le_trans hLW hg9.only.size,own_only3 how hg9.only (fun q hq hm=>by have:=own_ge h7W q (by simpa using hm);simp[Value.ownBlock]at hq;omega)⟩
  ·refine ObD.plain (by decide) rfl fun ρ W hk=>?_
   exact OpOut.move (.tmp 8) rfl ⟨Below.refl _ _,hk.old 8 (by decide)⟩
  ·refine ObD.plain (by decide) rfl fun ρ W hk=>?_
   exact OpOut.move (.tmp 9) rfl ⟨Below.refl _ _,hk.old 9 (by decide)⟩
  ·refine ObD.plain (by decide) rfl fun ρ W hk=>?_
   have h11:=(hk.fact 11 83 (by decide) rfl).pure
   have h12:=(hk.fact 12 84 (by decide) rfl).pure
   exact OpOut.slFrom (x:=.tmp 83) (y:=.tmp 84) rfl h11 h12 (run_fromI aL n _ j hjn hcapL W) ⟨Below.refl _ _,rfl⟩
  ·refine ObD.next 0 10 82 rfl rfl rfl rfl fun ρ W hk hw=>?_
   obtain⟨w6,hw6,ho6,hL6,how6⟩:=hw
   have hLW:L≤W.heap.size:=Nat.le_trans hL6 hw6.size
   have hoW:=own_only3 (S:=[]) ho6 (Only.of_below hw6) (by simp)
   have how:=own_only3 (S:=[]) how6 (Only.of_below hw6) (by simp)
   have h13:=(hk.fact 13 85 (by decide) rfl).pure
   obtain⟨_,e1⟩:=HX.out W hk.below
   have e2:=e1.cut (k:=j) (cap:=n+1) (by omega) (by omega)
   rw[if_neg (by omega)]at e2
   rw[show (y.bd.l.l.flatMap XL.cs).drop (j*5)=(y.bd.l.l.drop j).flatMap XL.cs from flat_from (dec:=XL.cs) (fun _=>rfl) _ _]at e2
   obtain⟨yv,hyv⟩:∃yv,ρ (.tmp 82)=yv:=⟨_,rfl⟩
   rw[hyv]at hoW
   obtain⟨v9,w9,hrun,ho9,hg9⟩:=run_append_any (P:=Tryz.prog) (w:=W) L (ty:=35) qi_elem yv (j+1) ((y.bd.l.l.take j).flatMap XL.cs++[.int .i64 1,.int .u64 0,.int .u64 0,.int .i64 0,.slice none 0 0]) hoW W.heap.size (some (aL.add (j*5))) (n-j) (y.bd.l.cap-j) ((y.bd.l.l.drop j).flatMap XL.cs) e2 xs_one hroomC hLW
   exact OpOut.append rfl hyv h13 hrun ⟨LowE.grows hg9 (fun q hq=>by have:=own_ge hoW q hq;omega),ho9,Nat.le_trans hLW hg9.only.size,own_only3 how hg9.only (fun q hq hm=>by have:=own_ge hoW q (by simpa using hm);simp[Value.ownBlock]at hq;omega)⟩
  ·refine ObD.plain (by decide) rfl fun ρ W hk=>?_
   have h1:=(hk.fact 1 73 (by decide) rfl).pure
   have h2:=(hk.fact 2 74 (by decide) rfl).pure
   exact OpOut.indexAddrT (x:=.tmp 73) (y:=.tmp 74) rfl h1 h2 (by go_simp) ⟨Below.refl _ _,rfl⟩
  ·refine ObD.plain (by decide) rfl fun ρ W hk=>?_
   have h15:=(hk.fact 15 87 (by decide) rfl).pure
   exact OpOut.fieldAddr (x:=.tmp 87) rfl h15 (by go_simp) ⟨Below.refl _ _,rfl⟩
  ·refine ObD.plain (by decide) rfl fun ρ W hk=>?_
   have h16:=(hk.fact 16 88 (by decide) rfl).pure
   exact OpOut.fieldAddr (x:=.tmp 88) rfl h16 (by go_simp) ⟨Below.refl _ _,rfl⟩
  ·refine ObD.next 1 14 86 rfl rfl rfl rfl fun ρ W hk hw=>?_
   obtain⟨w6,hw6,ho6,hL6,how6⟩:=hw
   have hoW:=own_only3 (S:=[]) ho6 (Only.of_below hw6) (by simp)
   have how:=own_only3 (S:=[]) how6 (Only.of_below hw6) (by simp)
   have h17:=(hk.fact 17 89 (by decide) rfl).pure
   obtain⟨yv,hyv⟩:∃yv,ρ (.tmp 86)=yv:=⟨_,rfl⟩
   rw[hyv]at hoW
   obtain⟨A9,c9,hv9,_,_⟩:=own_form hoW
   subst hv9
   have y8:W.cell? ⟨q3,k*3+1+1,none⟩=some (.slice y.bd.l.at_ y.bd.l.l.length y.bd.l.cap):=own_cell (g:=q3) (dec:=FuL.cs) (fun _=>rfl) how rfl HY.out 2 (by omega) _ rfl
   have f8:=own_free how (g:=q3) rfl (k*3+1+1)
   have hsc:=own_setCell (g:=q3) how rfl (k*3+2) (by omega) (.slice A9 (j+1+(n-j)) c9)
   have ho3:=own_only3 (S:=[q3]) hoW (Only.setCell W (p:=⟨q3,k*3+2,none⟩) (by simp) (.slice A9 (j+1+(n-j)) c9)) (fun q hq hm=>by have:=own_ge hoW q hq;simp at hm;omega)
   exact OpOut.storeT (x:=.tmp 89) (y:=.tmp 86) (W':=W.setCell ⟨q3,k*3+2,none⟩ (.slice A9 (j+1+(n-j)) c9)) rfl h17 hyv (by clear how hsc ho3 hoW ho6 how6;go_simp) ⟨LowE.set W _,A9,c9,hsc,ho3⟩
 ·intro vs W9 hb9 hf hl9
  obtain⟨w8,hw8,A4,c4,hof,hol⟩:=hl9
  have hrF:=nop_rowF HY.out HNL.out hjn (own_only3 (S:=[]) hof (Only.of_below hw8) (by simp))
  have hrL:=nop_rowL HNL.out hjn (own_only3 (S:=[]) hol (Only.of_below hw8) (by simp))
  have HBW9:=hide (HLB.out W9 hb9)
  have HBY9:Hid (Below yg w3 W9):=HBY7.out.trans ⟨hb9.os,hb9.tape,hb9.output,hb9.size,fun i hi=>hb9.block i (by omega) (by omega) (by omega)⟩
  have hin9:=nopM_in (HIN.out.cells W9 HBW9.out).2.1 HY.out hrF hrL
  have HIN9:=hide hin9
  have HX9:=hide ((hb9.block yg (by omega) (by omega) (by omega)).trans HX7.out)
  have HSM9:Hid (MoSm (nopM m (some ⟨q3,0,none⟩) c3 k (nopFu y A4 c4 j))):=nopM_sm HST.out HY.out
  have HG9:=hide (nopM_g (m:=m) (f:=k) (k:=j) (c:=c4) (c3:=c3) (A:=A4) (A3:=some ⟨q3,0,none⟩) HY.out)
  have HTY:=hide (lto_any (nopM m (some ⟨q3,0,none⟩) c3 k (nopFu y A4 c4 j)) W9 HIN9 HSM9)
  unfold MoL.cs Sl.val nopM at HTY
  simp only[List.length_set]at HTY
  have c0:=cell_blk HX9.out 0;have c1:=cell_blk HX9.out 1;have c2:=cell_blk HX9.out 2;have c3':=cell_blk HX9.out 3;have c4':=cell_blk HX9.out 4;have c5:=cell_blk HX9.out 5;have c6:=cell_blk HX9.out 6;have c7:=cell_blk HX9.out 7;have c8:=cell_blk HX9.out 8;have c9:=cell_blk HX9.out 9
  simp at c0 c1 c2 c3' c4' c5 c6 c7 c8 c9
  clear hf hof hol hw8 hrF hrL hin9 hb9 HX HLB HX7 HBY7 HO7 HL
  simp only[fillL]
  generalize vs 0=y0,vs 1=y1,vs 2=y2,vs 3=y3,vs 4=y4,vs 5=y5,vs 6=y6,vs 7=y7,vs 8=y8,vs 9=y9,vs 10=y10,vs 11=y11,vs 12=y12,vs 13=y13,vs 14=y14,vs 15=y15,vs 16=y16,vs 17=y17,vs 18=y18
  go_frame
  go_wp2_with fail
  refine HTY.out.mono ?_;rintro e w10 ⟨g2,m2,rfl,hM2,hg2,hs2,hb10⟩
  clear c0 c1 c2 c3' c4' c5 c6 c7 c8 c9 HTY HX9
  have hg2b:Hid (m2.g=(nopM m (some ⟨q3,0,none⟩) c3 k (nopFu y A4 c4 j)).g):=hg2
  have HBW10:Hid (Below W.heap.size W w10):=HBW9.out.trans (hb10.out.mono HBW9.out.size)
  have HBY10:Hid (Below w3.heap.size w3 w10):=by show Below _ _ _;rw[HYG.out];exact HBY9.out.trans (hb10.out.mono (by have:=HBY9.out.size;have:=HYG.out;omega))
  have hM1b:Hid (MoAt w10 g1 m1):=hM1.out.below HBY10.out
  obtain⟨R1,hR1⟩:∃R,runP m.g (k:Int)=R:=⟨_,rfl⟩
  obtain⟨R2,hR2⟩:∃R,runP (nopM m (some ⟨q3,0,none⟩) c3 k (nopFu y A4 c4 j)).g (k:Int)=R:=⟨_,rfl⟩
  have hkf:k<m.g.funcs.length:=by simp[MoL.g];exact hkN
  have hbdg:m.g.funcs.getD k noFu=y.g:=getD_some (by simp[MoL.g,HY.out])
  have hKEY:=runP_nop m.g k j hkf (by rw[hbdg];simp[FuL.g,BdL.g];rw[HNL.out];exact hjn)
  rw[←HG9.out,hR1,hR2,hbdg]at hKEY
  have hl1:=runP_len HSM.out (k:Int);have hl2:=runP_len HSM9.out (k:Int);have hp1:=runP_at HSM.out (k:Int)
  rw[hR1]at hl1 hp1;rw[hR2]at hl2
  obtain⟨h1,a1,e1⟩:=R1;obtain⟨h2,a2,e2⟩:=R2
  simp only at hKEY hl1 hl2 hp1
  obtain⟨p1,hpk1⟩:∃p,peakN h1=p:=⟨_,rfl⟩;obtain⟨p2,hpk2⟩:∃p,peakN h2=p:=⟨_,rfl⟩
  rw[hpk1,hpk2]at hKEY
  have HF1:Hid (∀V,Below w10.heap.size w10 V→Calls Tryz.prog 12 #[.pointer (some ⟨g1,0,none⟩),.int .i64 (k:Int)] V fun e w'=>e=.returned (.tuple #[.int .i64 (a1:Int),.int .i64 (e1:Int)])∧Hid (Below V.heap.size V w')):=fun V hV=>func_at (hide (hM1b.out.below hV)) hg1 hs1 (hide (HIN.out.cells V (HBW10.out.trans (hV.mono HBW10.out.size))).2.2) k a1 e1 (by rw[hR1])
  have HF2:Hid (∀V,Below w10.heap.size w10 V→Calls Tryz.prog 12 #[.pointer (some ⟨g2,0,none⟩),.int .i64 (k:Int)] V fun e w'=>e=.returned (.tuple #[.int .i64 (a2:Int),.int .i64 (e2:Int)])∧Hid (Below V.heap.size V w')):=fun V hV=>func_at (hide (hM2.out.below hV)) hg2b hs2 (hide (HIN.out.cells V (HBW10.out.trans (hV.mono HBW10.out.size))).2.2) k a2 e2 (by rw[hR2])
  have HP1:Hid (∀V,Below w10.heap.size w10 V→Calls Tryz.prog 13 #[.pointer (some ⟨g1,0,none⟩),.int .i64 (k:Int)] V fun e w'=>e=.returned (.int .i64 (p1:Int))∧Hid (Below V.heap.size V w')):=fun V hV=>peak_at (hide (hM1b.out.below hV)) hg1 hs1 (hide (HIN.out.cells V (HBW10.out.trans (hV.mono HBW10.out.size))).2.2) k (by rw[hR1];exact hl1) p1 (by rw[hR1];exact hpk1)
  have HP2:Hid (∀V,Below w10.heap.size w10 V→Calls Tryz.prog 13 #[.pointer (some ⟨g2,0,none⟩),.int .i64 (k:Int)] V fun e w'=>e=.returned (.int .i64 (p2:Int))∧Hid (Below V.heap.size V w')):=fun V hV=>peak_at (hide (hM2.out.below hV)) hg2b hs2 (hide (HIN.out.cells V (HBW10.out.trans (hV.mono HBW10.out.size))).2.2) k (by rw[hR2];exact hl2) p2 (by rw[hR2];exact hpk2)
  have HEN:Hid (∀V,Below W.heap.size W V→Calls Tryz.prog 14 #[.agg #[.slice y.bd.loc.at_ y.bd.loc.l.length y.bd.loc.cap,.slice y.bd.l.at_ y.bd.l.l.length y.bd.l.cap]] V fun e w'=>∃v,e=.returned (.tuple #[v,.int .i64 (errB y.bd.g:Int)])∧Hid (Below V.heap.size V w')):=fun V hV=>refbody_any y.bd V (hide ((HIN.out.cells V hV).2.1.func y (List.mem_of_getElem? HY.out)).2) (hide (HSM.out.bd y (List.mem_of_getElem? HY.out)))
  obtain⟨ne,hne⟩:∃ne,errB y.bd.g=ne:=⟨_,rfl⟩
  rw[show y.g.bd=y.bd.g from rfl,hne]at hKEY
  rw[hne,HN.out,HAL.out]at HEN
  have HKEY:=hide hKEY
  clear hKEY hR1 hR2 hl1 hl2 hpk1 hpk2 hne hM1 hM1b hM2 hg1 hg2 hg2b hs1 hs2 hkf hbdg HG9 HSM9 HIN9 HBY9 HBY10 HTO HST hb10
  go_wp2_with fail
  refine(HF1.out w10 (Below.refl _ _)).mono ?_;rintro e w11 ⟨rfl,hb11⟩
  go_wp2_with fail
  refine(HF2.out w11 hb11.out).mono ?_;rintro e w12 ⟨rfl,hb12⟩
  have HB12:=hide (hb11.out.trans (hb12.out.mono hb11.out.size))
  clear hb11 hb12 HF1 HF2
  have HFIN:Hid (∀V,Below w10.heap.size w10 V→Below w.heap.size w V):=fun V hV=>HB.out.trans ((HBW10.out.trans (hV.mono HBW10.out.size)).mono HB.out.size)
  by_cases hA:e2=15∧e1≠15
  ·obtain⟨hA1,hA2⟩:=hA
   subst hA1
   have q1:((e1:Int) != 15)=true:=by simp;omega
   clear hA2
   go_wp2_with fail
   go_ret
   exact⟨rfl,HFIN.out w12 HB12.out⟩
  obtain⟨k2,k3,k4,k5⟩:e2=e1∧p2=p1∧(e1=0∨ne≠0∨e1=12→a1=0∧a2=0)∧(¬(e1=0∨ne≠0∨e1=12)→(a1<j→a2=a1)∧(j≤a1→a2=a1+1)):=by
   rcases HKEY.out with hh|hh
   ·exact absurd hh hA
   ·exact hh
  subst k2;subst k3
  have K4:=hide k4;have K5:=hide k5
  clear k4 k5 HKEY hA
  go_upto_region 14 with fail
  go_cut [110] (fun v wx=>v=.bool false∧wx=w12)
  case first =>
   by_cases q15:e2=15
   ·have b15:((e2:Int)==15)=true:=by simp;omega
    have bne:((e2:Int) != (e2:Int))=false:=by simp
    clear q15
    go_wp2_with fail
    go_meet
    exact⟨rfl,rfl⟩
   ·have b15:((e2:Int)==15)=false:=by simp;omega
    clear q15
    go_wp2_with fail
    go_meet
    exact⟨rfl,rfl⟩
  case rest =>
  obtain⟨rfl,rfl⟩:=hcut
  have bne:((e2:Int) != (e2:Int))=false:=by simp
  go_wp2_with fail
  refine(HP1.out wc HB12.out).mono ?_;rintro e w13 ⟨rfl,hb13⟩
  have HB13:=hide (HB12.out.trans (hb13.out.mono HB12.out.size))
  clear hb13
  go_wp2_with fail
  refine(HP2.out w13 HB13.out).mono ?_;rintro e w14 ⟨rfl,hb14⟩
  have HB14:=hide (HB13.out.trans (hb14.out.mono HB13.out.size))
  have bpp:((p2:Int) != (p2:Int))=false:=by simp
  obtain⟨⟨c0,c1,c2,c3',c4',c5,c6,c7,c8,c9⟩,hin14,_⟩:=HIN.out.cells w14 (HBW10.out.trans (HB14.out.mono HBW10.out.size))
  obtain⟨ad9,ha9,_,_,kj⟩:=hin14.funcs.at_ (fun _=>rfl) HY.out
  rw[HAD.out]at ha9;injection ha9 with ha9;subst ha9
  have u1:w14.cell? ⟨(ad.add (k*3)).block,(ad.add (k*3)).off+1,none⟩=some (.slice y.bd.loc.at_ y.bd.loc.l.length y.bd.loc.cap):=kj 1 (by omega) (by omega) _ rfl
  have u2:w14.cell? ⟨(ad.add (k*3)).block,(ad.add (k*3)).off+2,none⟩=some (.slice y.bd.l.at_ y.bd.l.l.length y.bd.l.cap):=kj 2 (by omega) (by omega) _ rfl
  rw[HAD.out]at c2
  rw[HN.out,HAL.out]at u2
  clear kj hin14 hb14 HP1 HP2
  go_wp2_with fail
  refine(HEN.out w14 (HBW10.out.trans (HB14.out.mono HBW10.out.size))).mono ?_;rintro e w15 ⟨ve,rfl,hb15⟩
  have HB15:=hide (HFIN.out w15 (HB14.out.trans (hb15.out.mono HB14.out.size)))
  clear c0 c1 c2 c3' c4' c5 c6 c7 c8 c9 u1 u2 HEN hb15
  go_upto_region 19 with fail
  go_cut [142] (fun v wx=>v=.bool (decide (e2=0∨ne≠0∨e2=12))∧wx=w15)
  case first =>
   by_cases d0:e2=0
   ·have b0:((e2:Int)==0)=true:=by simp;omega
    have hdd:decide (e2=0∨ne≠0∨e2=12)=true:=by simp[d0]
    clear d0
    go_wp2_with fail
    go_meet
    exact⟨by rw[hdd],rfl⟩
   ·have b0:((e2:Int)==0)=false:=by simp;omega
    by_cases d1:ne=0
    ·have b1:((ne:Int) != 0)=false:=by simp;omega
     have hdd:decide (e2=0∨ne≠0∨e2=12)=((e2:Int)==12):=by
      rw[Bool.eq_iff_iff];simp[d0,d1];omega
     clear d0 d1
     go_wp2_with fail
     go_meet
     exact⟨by rw[hdd],rfl⟩
    ·have b1:((ne:Int) != 0)=true:=by simp;omega
     have hdd:decide (e2=0∨ne≠0∨e2=12)=true:=by simp[d1]
     clear d0 d1
     go_wp2_with fail
     go_meet
     exact⟨by rw[hdd],rfl⟩
  case rest =>
  obtain⟨rfl,rfl⟩:=hcut
  by_cases hc:e2=0∨ne≠0∨e2=12
  ·obtain⟨z1,z2⟩:=K4.out hc
   subst z1;subst z2
   rw[decide_eq_true hc]
   clear hc
   go_wp2_with fail
   go_ret
   exact⟨rfl,HB15.out⟩
  ·obtain⟨z1,z2⟩:=K5.out hc
   rw[decide_eq_false hc]
   by_cases hlt:a1<j
   ·have z3:=z1 hlt
    subst z3
    have hl3:(a2:Int)<(j:Int):=by omega
    clear hc z1 z2 hlt
    go_wp2_with fail
    go_ret
    exact⟨rfl,HB15.out⟩
   ·have z3:=z2 (by omega)
    subst z3
    have hl3:¬((a1:Int)<(j:Int)):=by omega
    have hl4:(a1:Int)≤1000:=by omega
    clear hc z1 z2 hlt
    go_wp2_with fail
    go_ret
    exact⟨by simp,HB15.out⟩
theorem CheckNops_o0 {H:Type} {enc:TypeId×Value→H} {w:World}:Opens enc Tryz.prog w 31 moD (moOk w):=mo_opens
theorem CheckNops_walk (s0:MoA) (f n:Int) (w:World) (h:moOk w s0) (hf:(Lit.int .i64 f).wf=true) (hn:(Lit.int .u8 n).wf=true) (hP:∃ml,w.cell? ⟨0,0,none⟩=some (.int .i64 ml)) :
  Calls Tryz.prog 3 #[.agg (moD s0).toArray,.int .i64 f,.int .u8 n] w fun e w'=>e=.returned (.bool true)∧Below w.heap.size w w':=by
 obtain⟨ml,hml⟩:=hP
 rw[←moL_cs]
 exact checknops_any (moL s0) f n w ml (mo_in h) (mo_re h) (wfU8 hn) hml
end Go.Proofs.YtpcanheghenhdaaGreat
