import Derived.Test.YtomppgohoplemaaGreatNAQ
import Derived.Test.YtomppgohoplemaaGreatNBA
set_option linter.unusedVariables false
namespace Go.Proofs.YtomppgohoplemaaGreat
open Go.RowKit
structure MoSz (m:MoL):Prop where
 sigs:m.sigs.l.length≤1000
 sig:∀x∈m.sigs.l,x.p.l.length≤1000∧x.r.l.length≤1000
 imps:m.imps.l.length≤1000
 funcs:m.funcs.l.length≤1000
 mems:m.mems.l.length≤1000
 gls:m.gls.l.length≤1000
 exs:m.exs.l.length≤1000
 els:m.els.l.length≤1000
 el:∀x∈m.els.l,x.fs.l.length≤1000
 das:m.das.l.length≤1000
 da:∀x∈m.das.l,x.bs.l.length≤100000
def MBox (w:World) (bx g:Nat):Prop:=w.heap[bx]?=some (.cells #[.pointer (some ⟨g,0,none⟩)] 39 (0,0))
theorem MBox.below {w w':World} {bx g:Nat} (h:MBox w bx g) (hb:Below w.heap.size w w'):MBox w' bx g:=(hb.block bx (blk_lt h)).trans h
theorem MBox.cell {w:World} {bx g:Nat} (h:MBox w bx g):w.cell? ⟨bx,0,none⟩=some (.pointer (some ⟨g,0,none⟩)):=cell_blk h 0
theorem fewT_typed (l:List UInt8):fewT l=typedB l:=by
 unfold fewT typedB
 congr 1
 rw[Bool.eq_iff_iff]
 simp only[Bool.not_eq_true',List.any_eq_false,List.all_eq_true,badT,goodT8]
 refine forall_congr' fun t=>forall_congr' fun _=>?_
 have h6:(t==126)=decide (t.toNat=126):=by rw[Bool.eq_iff_iff];simp[←UInt8.toNat_inj]
 have h7:(t==127)=decide (t.toNat=127):=by rw[Bool.eq_iff_iff];simp[←UInt8.toNat_inj]
 rw[h6,h7]
 simp
 omega
theorem map_getD {α β:Type} {f:α→β} {l:List α} {i:Nat} {x:α} {d:β} (h:l[i]?=some x):(l.map f).getD i d=f x:=by simp[List.getD,h]
set_option maxRecDepth 100000 in
set_option maxHeartbeats 1600000 in
theorem sigs1_any (g bx i:Nat) (m:MoL) (w:World) (h:Hid (MoAt w g m)) (hz:Hid (MoSz m)) (hx:Hid (MBox w bx g)) (hi:i<m.sigs.l.length) :
  Calls Tryz.prog 76 #[.int .i64 (i:Int),.pointer (some ⟨bx,0,none⟩)] w fun e w'=>e=.returned (.int .i64 (sgE m.g i:Int))∧Hid (Below w.heap.size w w'):=by
 obtain⟨x,hxi⟩:∃x,m.sigs.l[i]?=some x:=⟨_,List.getElem?_eq_getElem hi⟩
 have hmem:=List.mem_of_getElem? hxi
 have hE:Hid ((sgE m.g i:Int)=if !(fewT x.p.l&&fewT x.r.l)then 5 else 0):=by
  show _=_
  unfold sgE
  rw[show m.g.sigs.getD i noSg=x.g from map_getD hxi]
  simp only[SgL.g,←fewT_typed]
  cases fewT x.p.l&&fewT x.r.l<;>rfl
 obtain⟨c0,_,_,_,_,_,_,_,_,_⟩:=h.out.cells
 obtain⟨ad,ha,_,k0,kj⟩:=h.out.in_.sigs.at_ (fun _=>rfl) hxi
 have q0:=k0 _ rfl (by omega)
 have q1:=kj 1 (by omega) (by omega) _ rfl
 simp only[Sl.val]at q0 q1
 rw[ha]at c0
 have b0:=hx.out.cell
 have hs:SigIs w (.agg #[.slice x.p.at_ x.p.l.length x.p.cap,.slice x.r.at_ x.r.l.length x.r.cap]) x.p.l x.r.l:=⟨_,_,_,_,rfl,(h.out.in_.sig x hmem).1.bytes,(h.out.in_.sig x hmem).2.bytes⟩
 have HC:=hide (right_any _ _ _ w hs (hz.out.sig x hmem).1 (hz.out.sig x hmem).2)
 have HW:=hide (fun b W=>mwhen_any b 5 W)
 generalize hq:(fewT x.p.l&&fewT x.r.l)=q at *
 clear k0 kj hq hs hxi ha
 cases q <;>
 ·go_enter Tryz.func76,Tryz.ntmps76
  go_wp2_with fail
  refine HC.out.mono ?_;rintro e w2 ⟨rfl,h2⟩
  go_wp2_with fail
  refine(HW.out _ _).mono ?_;rintro e w3 ⟨rfl,rfl⟩
  go_wp2_with fail
  go_ret
  exact⟨by rw[hE.out];rfl,h2⟩
theorem quiet_eq {P:Program} {f:FuncId} {args:Array Value} {w:World} {n:Nat} {v:Value} (h:Calls P f args (w.drewN n) fun e w'=>e=.returned v∧w.drewN n=w'):Calls P f args (w.drewN n) fun e w''=>e=.returned v∧∃m,w''=w.drewN m :=
 h.mono fun _ _ ⟨he,hm⟩=>⟨he,n,hm.symm⟩
set_option maxRecDepth 100000 in
set_option maxHeartbeats 1600000 in
theorem imps1_any (g bx i:Nat) (m:MoL) (w:World) (h:Hid (MoAt w g m)) (hz:Hid (MoSz m)) (hx:Hid (MBox w bx g)) (hi:i<m.imps.l.length) :
  Calls Tryz.prog 79 #[.int .i64 (i:Int),.pointer (some ⟨bx,0,none⟩)] w fun e w'=>e=.returned (.int .i64 (imE m.g i:Int))∧Hid (Below w.heap.size w w'):=by
 obtain⟨x,hxi⟩:∃x,m.imps.l[i]?=some x:=⟨_,List.getElem?_eq_getElem hi⟩
 have hmem:=List.mem_of_getElem? hxi
 obtain⟨_,l1,l2⟩:=h.out.in_.imp x hmem
 have hE:Hid ((imE m.g i:Int)=if nmB x.m&&nmB x.n then (if !(inB x.sig m.sigs.l.length)then 2 else 0)else 16):=by
  show _=_
  unfold imE
  rw[show m.g.imps.getD i noIm=x from getD_some hxi,show m.g.sigs.length=m.sigs.l.length from by simp[MoL.g]]
  dsimp only
  generalize nmB x.m=a;generalize nmB x.n=b;generalize inB x.sig m.sigs.l.length=c
  cases a<;>cases b<;>cases c<;>rfl
 obtain⟨_,c1,_,_,_,_,_,_,_,_⟩:=h.out.cells
 obtain⟨ad,ha,_,k0,kj⟩:=h.out.in_.imps.at_ (fun _=>rfl) hxi
 have q0:=k0 _ rfl (by omega)
 have q1:=kj 1 (by omega) (by omega) _ rfl
 have q2:=kj 2 (by omega) (by omega) _ rfl
 rw[ha]at c1
 have b0:=hx.out.cell
 obtain⟨W,hW,hb,hxb,hsz⟩:=box_new w #[.string ⟨x.m.toArray⟩,.string ⟨x.n.toArray⟩,.int .i64 x.sig] 115
 have e0:=cell_blk hxb 0
 have e1:=cell_blk hxb 1
 have e2:=cell_blk hxb 2
 simp at e0 e1 e2
 have b0':=(hx.out.below hb).cell
 obtain⟨c0',_,_,_,_,_,_,_,_,_⟩:=(h.out.below hb).cells
 have HN1:=hide (named13_any x.m W l1)
 have HN2:=hide (named13_any x.n W l2)
 have HH:=hide (fun W=>mhas_any x.sig (m.sigs.l.length:Int) W)
 rw[inI_nat]at HH
 have HWh:=hide (fun b W=>mwhen_any b 2 W)
 have HB:=hide hb;have HW:=hide hW
 generalize hq1:nmB x.m=p1 at *
 generalize hq2:nmB x.n=p2 at *
 generalize hq3:inB x.sig m.sigs.l.length=p3 at *
 clear k0 kj hq1 hq2 hq3 hxi ha hb hW hxb hsz
 go_enter Tryz.func79,Tryz.ntmps79
 go_upto_region 2 with fail
 rw[HW.out]
 go_wp2_with fail
 refine HN1.out.mono ?_;rintro e w2 ⟨rfl,rfl⟩
 cases p1 with
 | false =>
  go_wp2_with fail
  go_ret
  exact⟨by rw[hE.out];rfl,HB.out⟩
 | true =>
  go_wp2_with fail
  refine HN2.out.mono ?_;rintro e w2 ⟨rfl,rfl⟩
  cases p2 with
  | false =>
   go_wp2_with fail
   go_ret
   exact⟨by rw[hE.out];rfl,HB.out⟩
  | true =>
   cases p3 <;>
   ·go_wp2_with fail
    go_quiet (first|(refine quiet_eq (HH.out _))|(refine quiet_eq (HWh.out _ _)))
    go_wp2_with fail
    go_ret
    exact⟨by rw[hE.out];rfl,below_dr HB.out _⟩
set_option maxRecDepth 100000 in
set_option maxHeartbeats 1600000 in
theorem funcs1_any (g bx i:Nat) (m:MoL) (w:World) (h:Hid (MoAt w g m)) (hx:Hid (MBox w bx g)) (hi:i<m.funcs.l.length) :
  Calls Tryz.prog 82 #[.int .i64 (i:Int),.pointer (some ⟨bx,0,none⟩)] w fun e w'=>e=.returned (.int .i64 (fuE m.g i:Int))∧Hid (Below w.heap.size w w'):=by
 obtain⟨x,hxi⟩:∃x,m.funcs.l[i]?=some x:=⟨_,List.getElem?_eq_getElem hi⟩
 have hE:Hid ((fuE m.g i:Int)=if !(inB x.sig m.sigs.l.length)then 2 else 0):=by
  show _=_
  unfold fuE
  rw[show m.g.funcs.getD i noFu=x.g from map_getD hxi,show m.g.sigs.length=m.sigs.l.length from by simp[MoL.g]]
  show ((if inB x.sig m.sigs.l.length=true then 0 else 2:Nat):Int)=_
  cases inB x.sig m.sigs.l.length<;>rfl
 obtain⟨c0,_,c2,_,_,_,_,_,_,_⟩:=h.out.cells
 obtain⟨ad,ha,_,k0,_⟩:=h.out.in_.funcs.at_ (fun _=>rfl) hxi
 have q0:=k0 _ rfl (by omega)
 rw[ha]at c2
 have b0:=hx.out.cell
 have HH:=hide (fun W=>mhas_any x.sig (m.sigs.l.length:Int) W)
 rw[inI_nat]at HH
 have HWh:=hide (fun b W=>mwhen_any b 2 W)
 generalize hq3:inB x.sig m.sigs.l.length=p3 at *
 clear k0 hq3 hxi ha
 cases p3 <;>
 ·go_enter Tryz.func82,Tryz.ntmps82
  go_wp2_with fail
  go_quiet (first|(refine quiet_eq (HH.out _))|(refine quiet_eq (HWh.out _ _)))
  go_wp2_with fail
  go_ret
  exact⟨by rw[hE.out];rfl,below_dr (Below.refl _ _) _⟩
set_option maxRecDepth 100000 in
set_option maxHeartbeats 1600000 in
theorem mems1_any (g bx i:Nat) (m:MoL) (w:World) (h:Hid (MoAt w g m)) (hx:Hid (MBox w bx g)) (hi:i<m.mems.l.length) :
  Calls Tryz.prog 83 #[.int .i64 (i:Int),.pointer (some ⟨bx,0,none⟩)] w fun e w'=>e=.returned (.int .i64 (lmE m.g i:Int))∧Hid (Below w.heap.size w w'):=by
 obtain⟨x,hxi⟩:∃x,m.mems.l[i]?=some x:=⟨_,List.getElem?_eq_getElem hi⟩
 have hE:Hid ((lmE m.g i:Int)=if !(limRight x.mn x.mx 65536)then 5 else 0):=by
  show _=_
  unfold lmE
  rw[show m.g.mems.getD i noLm=x from getD_some hxi]
  show ((if limRight x.mn x.mx 65536=true then 0 else 5:Nat):Int)=_
  generalize limRight x.mn x.mx 65536=c
  cases c<;>rfl
 obtain⟨_,_,_,_,c4,_,_,_,_,_⟩:=h.out.cells
 obtain⟨ad,ha,_,k0,kj⟩:=h.out.in_.mems.at_ (fun _=>rfl) hxi
 have q0:=k0 _ rfl (by omega)
 have q1:=kj 1 (by omega) (by omega) _ rfl
 have q2:=kj 2 (by omega) (by omega) _ rfl
 rw[ha]at c4
 have b0:=hx.out.cell
 have HH:=hide (fun W=>limRight_any x.mn x.mx 65536 x.wide W)
 unfold limV at HH
 have HWh:=hide (fun b W=>mwhen_any b 5 W)
 generalize hq3:limRight x.mn x.mx 65536=p3 at *
 clear k0 hq3 hxi ha
 cases p3 <;>
 ·go_enter Tryz.func83,Tryz.ntmps83
  go_wp2_with fail
  refine(HH.out _).mono ?_;rintro e w2 ⟨rfl,h2⟩
  go_wp2_with fail
  refine(HWh.out _ _).mono ?_;rintro e w3 ⟨rfl,rfl⟩
  go_wp2_with fail
  go_ret
  exact⟨by rw[hE.out];rfl,h2⟩
set_option maxRecDepth 100000 in
set_option maxHeartbeats 1600000 in
theorem gls1_any (g bx i:Nat) (m:MoL) (w:World) (h:Hid (MoAt w g m)) (hx:Hid (MBox w bx g)) (hi:i<m.gls.l.length) :
  Calls Tryz.prog 85 #[.int .i64 (i:Int),.pointer (some ⟨bx,0,none⟩)] w fun e w'=>e=.returned (.int .i64 (glE m.g i:Int))∧Hid (Below w.heap.size w w'):=by
 obtain⟨x,hxi⟩:∃x,m.gls.l[i]?=some x:=⟨_,List.getElem?_eq_getElem hi⟩
 have hE:Hid ((glE m.g i:Int)=if x.t.toNat=126∨(x.t.toNat=127∧x.v≤4294967295)then 0 else 5):=by
  show _=_
  unfold glE
  rw[show m.g.gls.getD i noGl=x from getD_some hxi]
  dsimp only
  have h6:(x.t==126)=decide (x.t.toNat=126):=by rw[Bool.eq_iff_iff];simp[←UInt8.toNat_inj]
  have h7:(x.t==127)=decide (x.t.toNat=127):=by rw[Bool.eq_iff_iff];simp[←UInt8.toNat_inj]
  rw[h6,h7]
  simp only[Bool.or_eq_true,Bool.and_eq_true,decide_eq_true_eq]
  split<;>rfl
 obtain⟨_,_,_,_,_,c5,_,_,_,_⟩:=h.out.cells
 obtain⟨ad,ha,_,k0,kj⟩:=h.out.in_.gls.at_ (fun _=>rfl) hxi
 have q0:=k0 _ rfl (by omega)
 have q1:=kj 1 (by omega) (by omega) _ rfl
 have q2:=kj 2 (by omega) (by omega) _ rfl
 rw[ha]at c5
 have b0:=hx.out.cell
 obtain⟨W,hW,hb,hxb,hsz⟩:=box_new w #[.int .u8 (x.t.toNat:Int),.bool x.mu,.int .u64 (x.v:Int)] 182
 have e0:=cell_blk hxb 0
 have e2:=cell_blk hxb 2
 simp at e0 e2
 have HH:=hide (tbits_any x.t W)
 unfold bitsV at HH
 have HWh:=hide (fun b W=>mwhen_any b 5 W)
 have HB:=hide hb;have HW:=hide hW
 generalize x.v=v at *
 clear k0 hxi ha hb hW hxb hsz
 by_cases h6:x.t.toNat=126
 ·have hF:=hide (show ((glE m.g i:Int)=0) by rw[hE.out,if_pos (.inl h6)])
  rw[if_neg (by omega),if_pos h6]at HH
  have h6':(x.t.toNat:Int)=126:=by omega
  rw[h6']at q0 e0 HH HW
  clear hE h6 h6'
  go_enter Tryz.func85,Tryz.ntmps85
  go_upto_region 2 with fail
  rw[HW.out]
  go_wp2_with fail
  refine HH.out.mono ?_;rintro e w2 ⟨rfl,rfl⟩
  go_wp2_with fail
  refine(HWh.out _ _).mono ?_;rintro e w3 ⟨rfl,rfl⟩
  go_wp2_with fail
  go_ret
  exact⟨by rw[hF.out];rfl,HB.out⟩
 by_cases h7:x.t.toNat=127
 ·rw[if_pos h7]at HH
  have h7':(x.t.toNat:Int)=127:=by omega
  rw[h7']at q0 e0 HH HW
  by_cases hv:v≤4294967295
  ·have hd:decide ((4294967295:Int)<(v:Int))=false:=decide_eq_false (by omega)
   have hF:=hide (show ((glE m.g i:Int)=0) by rw[hE.out,if_pos (.inr ⟨h7,hv⟩)])
   clear hE hv h6 h7 h7'
   go_enter Tryz.func85,Tryz.ntmps85
   go_upto_region 2 with fail
   rw[HW.out]
   go_wp2_with fail
   refine HH.out.mono ?_;rintro e w2 ⟨rfl,rfl⟩
   go_wp2_with fail
   refine(HWh.out _ _).mono ?_;rintro e w3 ⟨rfl,rfl⟩
   go_wp2_with fail
   go_ret
   exact⟨by rw[hF.out];rfl,HB.out⟩
  ·have hd:decide ((4294967295:Int)<(v:Int))=true:=decide_eq_true (by omega)
   have hF:=hide (show ((glE m.g i:Int)=5) by rw[hE.out,if_neg (by omega)])
   clear hE hv h6 h7 h7'
   go_enter Tryz.func85,Tryz.ntmps85
   go_upto_region 2 with fail
   rw[HW.out]
   go_wp2_with fail
   refine HH.out.mono ?_;rintro e w2 ⟨rfl,rfl⟩
   go_wp2_with fail
   refine(HWh.out _ _).mono ?_;rintro e w3 ⟨rfl,rfl⟩
   go_wp2_with fail
   go_ret
   exact⟨by rw[hF.out];rfl,HB.out⟩
 ·rw[if_neg h7,if_neg h6]at HH
  have g7:((x.t.toNat:Int)==127)=false:=by simp;omega
  have hF:=hide (show ((glE m.g i:Int)=5) by rw[hE.out,if_neg (by omega)])
  clear hE h6 h7
  go_enter Tryz.func85,Tryz.ntmps85
  go_upto_region 2 with fail
  rw[HW.out]
  go_wp2_with fail
  refine HH.out.mono ?_;rintro e w2 ⟨rfl,rfl⟩
  go_wp2_with fail
  refine(HWh.out _ _).mono ?_;rintro e w3 ⟨rfl,rfl⟩
  go_wp2_with fail
  go_ret
  exact⟨by rw[hF.out];rfl,HB.out⟩
theorem table13_any (g:Nat) (m:MoL) (w:World) (h:Hid (MoAt w g m)) :
  Calls Tryz.prog 56 #[.pointer (some ⟨g,0,none⟩)] w fun e w'=>e=.returned (.int .i64 (tbE m.g:Int))∧Hid (Below w.heap.size w w'):=by
 obtain⟨_,_,_,c3,_,_,_,_,_,_⟩:=h.out.cells
 have HWh:=hide (fun b W=>mwhen_any b 15 W)
 have hE:Hid ((tbE m.g:Int)=if m.table < -1 then 2 else if 1000<m.table then 15 else 0):=by
  show ((if m.table < -1 then 2 else if 1000<m.table then 15 else 0:Nat):Int)=_
  split
  ·rfl
  ·split<;>rfl
 generalize m.table=t at *
 by_cases h1:t < -1
 ·have hd:decide (t < -1)=true:=decide_eq_true h1
  have hF:=hide (show ((tbE m.g:Int)=2) by rw[hE.out,if_pos h1])
  clear hE
  go_enter Tryz.func56,Tryz.ntmps56
  go_wp2_with fail
  go_ret
  exact⟨by rw[hF.out];rfl,Below.refl _ _⟩
 ·have hd:decide (t < -1)=false:=decide_eq_false h1
  by_cases h2:1000<t
  ·have hd2:decide (1000<t)=true:=decide_eq_true h2
   have hF:=hide (show ((tbE m.g:Int)=15) by rw[hE.out,if_neg h1,if_pos h2])
   clear hE h1
   go_enter Tryz.func56,Tryz.ntmps56
   go_wp2_with fail
   refine(HWh.out _ _).mono ?_;rintro e w3 ⟨rfl,rfl⟩
   go_wp2_with fail
   go_ret
   exact⟨by rw[hF.out];rfl,Below.refl _ _⟩
  ·have hd2:decide (1000<t)=false:=decide_eq_false h2
   have hF:=hide (show ((tbE m.g:Int)=0) by rw[hE.out,if_neg h1,if_neg h2])
   clear hE h1
   go_enter Tryz.func56,Tryz.ntmps56
   go_wp2_with fail
   refine(HWh.out _ _).mono ?_;rintro e w3 ⟨rfl,rfl⟩
   go_wp2_with fail
   go_ret
   exact⟨by rw[hF.out];rfl,Below.refl _ _⟩
theorem sigN_sig {m:MoL} {f:Nat} (h1:∀x∈m.imps.l,inB x.sig m.sigs.l.length=true) (h2:∀x∈m.funcs.l,inB x.sig m.sigs.l.length=true) (hf:f<m.imps.l.length+m.funcs.l.length) :
  ∃s,sigL m (f:Int)=some s∧s∈m.sigs.l∧sigOf m.g f=s.g:=by
 have hn:mnumL m (f:Int)=some (sigN m.g f):=by unfold mnumL;rw[if_pos (by omega),Int.toNat_natCast]
 have hi:inB (sigN m.g f) m.sigs.l.length=true:=by
  unfold sigN
  split
  ·rename_i hlt
   exact h1 _ (List.mem_of_getElem? (getD_lt (l:=m.imps.l) hlt))
  ·rename_i hge
   have hge':¬f<m.imps.l.length:=hge
   have hlt2:f-m.imps.l.length<m.funcs.l.length:=by omega
   obtain⟨y,hy⟩:∃y,m.funcs.l[f-m.imps.l.length]?=some y:=⟨_,List.getElem?_eq_getElem hlt2⟩
   rw[show m.g.funcs.getD (f-m.g.imps.length) noFu=y.g from map_getD hy]
   exact h2 y (List.mem_of_getElem? hy)
 obtain⟨i1,i2⟩:=inB_iff.1 hi
 have hlt:(sigN m.g f).toNat<m.sigs.l.length:=by omega
 obtain⟨s,hs⟩:∃s,m.sigs.l[(sigN m.g f).toNat]?=some s:=⟨_,List.getElem?_eq_getElem hlt⟩
 refine⟨s,?_,List.mem_of_getElem? hs,?_⟩
 ·unfold sigL
  rw[hn]
  show (if inB (sigN m.g f) m.sigs.l.length then m.sigs.l[(sigN m.g f).toNat]? else none)=_
  rw[hi,if_pos rfl,hs]
 ·unfold sigOf
  exact map_getD hs
set_option maxRecDepth 100000 in
set_option maxHeartbeats 1600000 in
theorem start13_any (g:Nat) (m:MoL) (w:World) (h:Hid (MoAt w g m)) (hz:Hid (MoSz m)) (h1:∀x∈m.imps.l,inB x.sig m.sigs.l.length=true) (h2:∀x∈m.funcs.l,inB x.sig m.sigs.l.length=true) :
  Calls Tryz.prog 60 #[.pointer (some ⟨g,0,none⟩)] w fun e w'=>e=.returned (.int .i64 (stE m.g:Int))∧Hid (Below w.heap.size w w'):=by
 obtain⟨_,_,_,_,_,_,_,c7,_,_⟩:=h.out.cells
 have z1:=hz.out.imps;have z2:=hz.out.funcs;have z3:=hz.out.sigs
 obtain⟨s1,s2⟩:=h.out.in_.start
 have HC:=hide (msig_any g m m.start w h (by omega) (by omega) (by omega) s1 s2)
 have HWh:=hide (fun b W=>mwhen_any b 5 W)
 by_cases h0:m.start=-1
 ·have hE:Hid ((stE m.g:Int)=0):=by show ((if m.start=-1 then 0 else _:Nat):Int)=0;rw[if_pos h0];rfl
  rw[h0]at c7
  clear h0 HC s1 s2
  go_enter Tryz.func60,Tryz.ntmps60
  go_wp2_with fail
  go_ret
  exact⟨by rw[hE.out];rfl,Below.refl _ _⟩
 have hne:(m.start==-1)=false:=by simpa using h0
 by_cases hin:0≤m.start∧m.start<((m.imps.l.length+m.funcs.l.length:Nat):Int)
 ·obtain⟨f,hf⟩:∃f:Nat,m.start=(f:Int):=⟨m.start.toNat,by omega⟩
  obtain⟨s,hs,hsm,hso⟩:=sigN_sig (f:=f) h1 h2 (by omega)
  rw[hf]at HC hne c7
  rw[hs]at HC
  have l1:=(hz.out.sig s hsm).1;have l2:=(hz.out.sig s hsm).2
  have hE:Hid ((stE m.g:Int)=if s.p.l.length+s.r.l.length=0 then 0 else 5):=by
   show ((if m.start=-1 then 0 else if inB m.start (m.imps.l.length+(m.funcs.l.map FuL.g).length)then (if (sigOf m.g m.start.toNat).p.length+(sigOf m.g m.start.toNat).r.length=0 then 0 else 5)else 2:Nat):Int)=_
   rw[if_neg h0,if_pos (by rw[List.length_map];exact inB_iff.2 hin),hf,Int.toNat_natCast,hso]
   show ((if s.p.l.length+s.r.l.length=0 then 0 else 5:Nat):Int)=_
   by_cases hc:s.p.l.length+s.r.l.length=0
   ·rw[if_pos hc,if_pos hc];rfl
   ·rw[if_neg hc,if_neg hc];rfl
  simp only[sigV,Sl.val]at HC
  have hF:=hide hE.out
  generalize s.p.l.length=a1 at *
  generalize s.r.l.length=a2 at *
  clear hs hso h0 hin hf s1 s2 h1 h2 hE
  by_cases hl:a1+a2=0
  ·have e1:a1=0:=by omega
   have e2:a2=0:=by omega
   subst e1 e2
   clear l1 l2
   go_enter Tryz.func60,Tryz.ntmps60
   go_wp2_with fail
   refine HC.out.mono ?_;rintro e w2 ⟨rfl,hb2⟩
   go_wp2_with fail
   refine(HWh.out _ _).mono ?_;rintro e w3 ⟨rfl,rfl⟩
   go_wp2_with fail
   go_ret
   exact⟨by rw[hF.out];rfl,hb2.out.alloc hb2.out.size _⟩
  ·have hd:decide ((0:Int)<(a1:Int)+(a2:Int))=true:=decide_eq_true (by omega)
   rw[if_neg hl]at hF
   clear hl
   go_enter Tryz.func60,Tryz.ntmps60
   go_wp2_with fail
   refine HC.out.mono ?_;rintro e w2 ⟨rfl,hb2⟩
   go_wp2_with fail
   refine(HWh.out _ _).mono ?_;rintro e w3 ⟨rfl,rfl⟩
   go_wp2_with fail
   go_ret
   exact⟨by rw[hF.out];rfl,hb2.out.alloc hb2.out.size _⟩
 ·have hn:sigL m m.start=none:=by unfold sigL mnumL;rw[if_neg hin];rfl
  rw[hn]at HC
  simp only[sigV]at HC
  have hE:Hid ((stE m.g:Int)=2):=by
   show ((if m.start=-1 then 0 else if inB m.start (m.imps.l.length+(m.funcs.l.map FuL.g).length)then _ else 2:Nat):Int)=_
   rw[if_neg h0,if_neg (by rw[List.length_map,inB_iff];exact hin)]
   rfl
  clear hn hin h0 h1 h2
  go_enter Tryz.func60,Tryz.ntmps60
  go_wp2_with fail
  refine HC.out.mono ?_;rintro e w2 ⟨rfl,hb2⟩
  go_wp2_with fail
  go_ret
  exact⟨by rw[hE.out];rfl,hb2.out.alloc hb2.out.size _⟩
end Go.Proofs.YtomppgohoplemaaGreat
