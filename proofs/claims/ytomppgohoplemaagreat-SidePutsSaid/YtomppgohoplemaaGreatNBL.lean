import Derived.Test.YtomppgohoplemaaGreatNBK
set_option linter.unusedVariables false
namespace Go.Proofs.YtomppgohoplemaaGreat
open Go.RowKit
theorem mbox_new (w:World) (g:Nat):∃W,w.alloc (.cells #[.pointer (some ⟨g,0,none⟩)] 39)=W∧Below w.heap.size w W∧MBox W w.heap.size g:=by
 obtain⟨W,h1,h2,h3,_⟩:=box_new w #[.pointer (some ⟨g,0,none⟩)] 39
 exact⟨W,h1,h2,h3⟩
theorem many_of (w:World) (n most:Nat) (F:FuncId) (cp:Array Value) (f:Nat→Nat) (hn:n≤1000000) (hm:most≤1000000) (hf:∀i,f i≤1000) (hcf:∀(x:Value) (W:World),Sem.run Tryz.prog (callFunc F (#[x]++cp)) W=.ok (.enter F (#[x]++cp)) W)
  (hF:Hid (∀i:Nat,i<n→∀W,Below w.heap.size w W→Calls Tryz.prog F (#[.int .i64 (i:Int)]++cp) W fun e w'=>e=.returned (.int .i64 (f i:Int))∧Hid (Below W.heap.size W w'))) :
  Calls Tryz.prog 75 #[.int .i64 (n:Int),.int .i64 (most:Int),.func (.func F) #[] cp] w fun e w'=>e=.returned (.int .i64 (manyI n most f:Int))∧Hid (Below w.heap.size w w') :=
 mmany_any n most F cp f w hn hm hf hcf (hide (fun _=>hF.out))
set_option maxRecDepth 100000 in
theorem sigs_m (g:Nat) (m:MoL) (w:World) (h:Hid (MoAt w g m)) (hz:Hid (MoSz m)) :
  Calls Tryz.prog 53 #[.pointer (some ⟨g,0,none⟩)] w fun e w'=>e=.returned (.int .i64 (sgsE m.g:Int))∧Hid (Below w.heap.size w w'):=by
 obtain⟨W,hW,hb,hx⟩:=mbox_new w g
 have hM:=hide (h.out.below hb)
 obtain⟨c0,_,_,_,_,_,_,_,_,_⟩:=hM.out.cells
 have b0:=hx.cell
 have hl:=hz.out.sigs
 have HX:=hide hx
 have hC:=many_of W m.sigs.l.length 50 76 #[.pointer (some ⟨w.heap.size,0,none⟩)] (sgE m.g) (by omega) (by omega) (by intro i;unfold sgE;dsimp only;(repeat' split)<;>omega)
  (fun x W=>callF Tryz.func76 (by kernel_rfl) (by kernel_rfl) _ W)
  (hide (fun i hi V hV=>sigs1_any g w.heap.size i m V (hide (hM.out.below hV)) hz (hide (HX.out.below hV)) hi))
 have HC:=hide hC
 have HB:=hide hb;have HW:=hide hW
 have hsgsE:Hid (sgsE m.g=manyI m.sigs.l.length 50 (sgE m.g)):=by show _=_;unfold sgsE;simp[MoL.g]
 rw[hsgsE.out]
 clear hb hW hC hx hsgsE
 go_enter Tryz.func53,Tryz.ntmps53
 go_upto_region 1 with fail
 rw[HW.out]
 go_wp2_with fail
 refine HC.out.mono ?_;rintro e w2 ⟨rfl,h2⟩
 go_wp2_with fail
 go_ret
 exact⟨rfl,HB.out.trans (h2.out.mono HB.out.size)⟩
set_option maxRecDepth 100000 in
theorem imps_m (g:Nat) (m:MoL) (w:World) (h:Hid (MoAt w g m)) (hz:Hid (MoSz m)) :
  Calls Tryz.prog 54 #[.pointer (some ⟨g,0,none⟩)] w fun e w'=>e=.returned (.int .i64 (imsE m.g:Int))∧Hid (Below w.heap.size w w'):=by
 obtain⟨W,hW,hb,hx⟩:=mbox_new w g
 have hM:=hide (h.out.below hb)
 obtain⟨_,c1,_,_,_,_,_,_,_,_⟩:=hM.out.cells
 have b0:=hx.cell
 have hl:=hz.out.imps
 have HX:=hide hx
 have hC:=many_of W m.imps.l.length 20 79 #[.pointer (some ⟨w.heap.size,0,none⟩)] (imE m.g) (by omega) (by omega) (by intro i;unfold imE;dsimp only;(repeat' split)<;>omega)
  (fun x W=>callF Tryz.func79 (by kernel_rfl) (by kernel_rfl) _ W)
  (hide (fun i hi V hV=>imps1_any g w.heap.size i m V (hide (hM.out.below hV)) hz (hide (HX.out.below hV)) hi))
 have HC:=hide hC
 have HB:=hide hb;have HW:=hide hW
 have himsE:Hid (imsE m.g=manyI m.imps.l.length 20 (imE m.g)):=by show _=_;unfold imsE;simp[MoL.g]
 rw[himsE.out]
 clear hb hW hC hx himsE
 go_enter Tryz.func54,Tryz.ntmps54
 go_upto_region 1 with fail
 rw[HW.out]
 go_wp2_with fail
 refine HC.out.mono ?_;rintro e w2 ⟨rfl,h2⟩
 go_wp2_with fail
 go_ret
 exact⟨rfl,HB.out.trans (h2.out.mono HB.out.size)⟩
set_option maxRecDepth 100000 in
theorem mems_m (g:Nat) (m:MoL) (w:World) (h:Hid (MoAt w g m)) (hz:Hid (MoSz m)) :
  Calls Tryz.prog 57 #[.pointer (some ⟨g,0,none⟩)] w fun e w'=>e=.returned (.int .i64 (lmsE m.g:Int))∧Hid (Below w.heap.size w w'):=by
 obtain⟨W,hW,hb,hx⟩:=mbox_new w g
 have hM:=hide (h.out.below hb)
 obtain⟨_,_,_,_,c4,_,_,_,_,_⟩:=hM.out.cells
 have b0:=hx.cell
 have hl:=hz.out.mems
 have HX:=hide hx
 have hC:=many_of W m.mems.l.length 4 83 #[.pointer (some ⟨w.heap.size,0,none⟩)] (lmE m.g) (by omega) (by omega) (by intro i;unfold lmE;dsimp only;(repeat' split)<;>omega)
  (fun x W=>callF Tryz.func83 (by kernel_rfl) (by kernel_rfl) _ W)
  (hide (fun i hi V hV=>mems1_any g w.heap.size i m V (hide (hM.out.below hV))  (hide (HX.out.below hV)) hi))
 have HC:=hide hC
 have HB:=hide hb;have HW:=hide hW
 have hlmsE:Hid (lmsE m.g=manyI m.mems.l.length 4 (lmE m.g)):=by show _=_;unfold lmsE;simp[MoL.g]
 rw[hlmsE.out]
 clear hb hW hC hx hlmsE
 go_enter Tryz.func57,Tryz.ntmps57
 go_upto_region 1 with fail
 rw[HW.out]
 go_wp2_with fail
 refine HC.out.mono ?_;rintro e w2 ⟨rfl,h2⟩
 go_wp2_with fail
 go_ret
 exact⟨rfl,HB.out.trans (h2.out.mono HB.out.size)⟩
set_option maxRecDepth 100000 in
theorem gls_m (g:Nat) (m:MoL) (w:World) (h:Hid (MoAt w g m)) (hz:Hid (MoSz m)) :
  Calls Tryz.prog 58 #[.pointer (some ⟨g,0,none⟩)] w fun e w'=>e=.returned (.int .i64 (glsE m.g:Int))∧Hid (Below w.heap.size w w'):=by
 obtain⟨W,hW,hb,hx⟩:=mbox_new w g
 have hM:=hide (h.out.below hb)
 obtain⟨_,_,_,_,_,c5,_,_,_,_⟩:=hM.out.cells
 have b0:=hx.cell
 have hl:=hz.out.gls
 have HX:=hide hx
 have hC:=many_of W m.gls.l.length 50 85 #[.pointer (some ⟨w.heap.size,0,none⟩)] (glE m.g) (by omega) (by omega) (by intro i;unfold glE;dsimp only;(repeat' split)<;>omega)
  (fun x W=>callF Tryz.func85 (by kernel_rfl) (by kernel_rfl) _ W)
  (hide (fun i hi V hV=>gls1_any g w.heap.size i m V (hide (hM.out.below hV))  (hide (HX.out.below hV)) hi))
 have HC:=hide hC
 have HB:=hide hb;have HW:=hide hW
 have hglsE:Hid (glsE m.g=manyI m.gls.l.length 50 (glE m.g)):=by show _=_;unfold glsE;simp[MoL.g]
 rw[hglsE.out]
 clear hb hW hC hx hglsE
 go_enter Tryz.func58,Tryz.ntmps58
 go_upto_region 1 with fail
 rw[HW.out]
 go_wp2_with fail
 refine HC.out.mono ?_;rintro e w2 ⟨rfl,h2⟩
 go_wp2_with fail
 go_ret
 exact⟨rfl,HB.out.trans (h2.out.mono HB.out.size)⟩
set_option maxRecDepth 100000 in
theorem els_m (g:Nat) (m:MoL) (w:World) (h:Hid (MoAt w g m)) (hz:Hid (MoSz m)) (ht:-1≤m.table) :
  Calls Tryz.prog 61 #[.pointer (some ⟨g,0,none⟩)] w fun e w'=>e=.returned (.int .i64 (elsE m.g:Int))∧Hid (Below w.heap.size w w'):=by
 obtain⟨W,hW,hb,hx⟩:=mbox_new w g
 have hM:=hide (h.out.below hb)
 obtain⟨_,_,_,_,_,_,_,_,c8,_⟩:=hM.out.cells
 have b0:=hx.cell
 have hl:=hz.out.els
 have HX:=hide hx
 have hC:=many_of W m.els.l.length 20 91 #[.pointer (some ⟨w.heap.size,0,none⟩)] (elE m.g) (by omega) (by omega) (by intro i;unfold elE;dsimp only;(repeat' split)<;>omega)
  (fun x W=>callF Tryz.func91 (by kernel_rfl) (by kernel_rfl) _ W)
  (hide (fun i hi V hV=>elems1_any g w.heap.size i m V (hide (hM.out.below hV)) hz (hide (HX.out.below hV)) hi ht))
 have HC:=hide hC
 have HB:=hide hb;have HW:=hide hW
 have helsE:Hid (elsE m.g=manyI m.els.l.length 20 (elE m.g)):=by show _=_;unfold elsE;simp[MoL.g]
 rw[helsE.out]
 clear hb hW hC hx helsE
 go_enter Tryz.func61,Tryz.ntmps61
 go_upto_region 1 with fail
 rw[HW.out]
 go_wp2_with fail
 refine HC.out.mono ?_;rintro e w2 ⟨rfl,h2⟩
 go_wp2_with fail
 go_ret
 exact⟨rfl,HB.out.trans (h2.out.mono HB.out.size)⟩
set_option maxRecDepth 100000 in
theorem das_m (g:Nat) (m:MoL) (w:World) (h:Hid (MoAt w g m)) (hz:Hid (MoSz m)) :
  Calls Tryz.prog 62 #[.pointer (some ⟨g,0,none⟩)] w fun e w'=>e=.returned (.int .i64 (dasE m.g:Int))∧Hid (Below w.heap.size w w'):=by
 obtain⟨W,hW,hb,hx⟩:=mbox_new w g
 have hM:=hide (h.out.below hb)
 obtain⟨_,_,_,_,_,_,_,_,_,c9⟩:=hM.out.cells
 have b0:=hx.cell
 have hl:=hz.out.das
 have HX:=hide hx
 have hC:=many_of W m.das.l.length 20 94 #[.pointer (some ⟨w.heap.size,0,none⟩)] (daE m.g) (by omega) (by omega) (by intro i;unfold daE;dsimp only;(repeat' split)<;>omega)
  (fun x W=>callF Tryz.func94 (by kernel_rfl) (by kernel_rfl) _ W)
  (hide (fun i hi V hV=>datas1_any g w.heap.size i m V (hide (hM.out.below hV)) hz (hide (HX.out.below hV)) hi))
 have HC:=hide hC
 have HB:=hide hb;have HW:=hide hW
 have hdasE:Hid (dasE m.g=manyI m.das.l.length 20 (daE m.g)):=by show _=_;unfold dasE;simp[MoL.g]
 rw[hdasE.out]
 clear hb hW hC hx hdasE
 go_enter Tryz.func62,Tryz.ntmps62
 go_upto_region 1 with fail
 rw[HW.out]
 go_wp2_with fail
 refine HC.out.mono ?_;rintro e w2 ⟨rfl,h2⟩
 go_wp2_with fail
 go_ret
 exact⟨rfl,HB.out.trans (h2.out.mono HB.out.size)⟩
set_option maxRecDepth 100000 in
theorem funcs_m (g:Nat) (m:MoL) (w:World) (h:Hid (MoAt w g m)) (hz:Hid (MoSz m)) :
  Calls Tryz.prog 55 #[.pointer (some ⟨g,0,none⟩)] w fun e w'=>e=.returned (.int .i64 (fusE m.g:Int))∧Hid (Below w.heap.size w w'):=by
 obtain⟨W,hW,hb,hx⟩:=mbox_new w g
 have hM:=hide (h.out.below hb)
 have b0:=hx.cell
 have hl:=hz.out.imps;have hl2:=hz.out.funcs
 have HX:=hide hx
 have HC:=hide (mcount_any g m W hM (by omega) (by omega))
 have HF:=hide (fun (V:World) (hV:Below W.heap.size W V)=>mfirst_any m.funcs.l.length 82 #[.pointer (some ⟨w.heap.size,0,none⟩)] (fuE m.g) V (by omega) (by intro i;unfold fuE;split<;>omega)
  (fun x W=>callF Tryz.func82 (by kernel_rfl) (by kernel_rfl) _ W)
  (hide (fun i hi U hU=>funcs1_any g w.heap.size i m U (hide ((hM.out.below hV).below hU)) (hide ((HX.out.below hV).below hU)) hi)))
 have HB:=hide hb;have HW:=hide hW
 have hEE:Hid (fusE m.g=if 100<m.imps.l.length+m.funcs.l.length then 15 else firstI (fuE m.g) m.funcs.l.length):=by show _=_;unfold fusE Mo.all;simp[MoL.g]
 clear hb hW hx
 by_cases h1:100<m.imps.l.length+m.funcs.l.length
 ·rw[if_pos h1]at hEE
  generalize m.imps.l.length+m.funcs.l.length=q at *
  go_enter Tryz.func55,Tryz.ntmps55
  go_upto_region 1 with fail
  rw[HW.out]
  go_wp2_with fail
  refine HC.out.mono ?_;rintro e w2 ⟨rfl,h2⟩
  go_wp2_with fail
  go_ret
  exact⟨by rw[hEE.out];rfl,HB.out.trans (h2.out.mono HB.out.size)⟩
 ·rw[if_neg h1]at hEE
  generalize m.imps.l.length+m.funcs.l.length=q at *
  go_enter Tryz.func55,Tryz.ntmps55
  go_upto_region 1 with fail
  rw[HW.out]
  go_wp2_with fail
  refine HC.out.mono ?_;rintro e w2 ⟨rfl,h2⟩
  have HF2:=hide (HF.out w2 h2.out)
  have b2:=(HX.out.below h2.out).cell
  obtain⟨_,_,c2,_,_,_,_,_,_,_⟩:=(hM.out.below h2.out).cells
  have HB2:=hide (HB.out.trans (h2.out.mono HB.out.size))
  clear h2 HC HF
  go_wp2_with fail
  refine HF2.out.mono ?_;rintro e w3 ⟨rfl,h3⟩
  go_wp2_with fail
  go_ret
  exact⟨by rw[hEE.out];rfl,HB2.out.trans (h3.out.mono HB2.out.size)⟩
set_option maxRecDepth 100000 in
theorem exs_m (g:Nat) (m:MoL) (w:World) (h:Hid (MoAt w g m)) (hz:Hid (MoSz m)) (ht1:-1≤m.table) (ht2:m.table≤1000) :
  Calls Tryz.prog 59 #[.pointer (some ⟨g,0,none⟩)] w fun e w'=>e=.returned (.int .i64 (exsE m.g:Int))∧Hid (Below w.heap.size w w'):=by
 obtain⟨W,hW,hb,hx⟩:=mbox_new w g
 have hM:=hide (h.out.below hb)
 have b0:=hx.cell
 have hl:=hz.out.exs
 have HX:=hide hx
 have HC:=hide (counts_any g m W hM hz ht1 ht2)
 unfold cntV at HC
 obtain⟨n0,hn0⟩:∃n0,m.imps.l.length+m.funcs.l.length=n0:=⟨_,rfl⟩
 rw[hn0]at HC
 have HN0:=hide hn0
 have HB:=hide hb;have HW:=hide hW
 have hEE:Hid (exsE m.g=manyI m.exs.l.length 50 (exE m.g)):=by show _=_;unfold exsE;simp[MoL.g]
 rw[hEE.out]
 clear hb hW hx hEE hn0
 go_enter Tryz.func59,Tryz.ntmps59
 go_upto_region 1 with fail
 rw[HW.out]
 go_wp2_with fail
 refine HC.out.mono ?_;rintro e w2 ⟨rfl,h2⟩
 obtain⟨W3,hW3,hb3,hx3,_⟩:=box_new w2 #[.int .i64 (n0:Int),.int .i64 (tmin m.table),.int .i64 (m.mems.l.length:Int),.int .i64 (m.gls.l.length:Int)] 184
 have hM3:=hide ((hM.out.below h2.out).below hb3)
 have HX3:=hide ((HX.out.below h2.out).below hb3)
 have b3:=HX3.out.cell
 obtain⟨_,_,_,_,_,_,c6,_,_,_⟩:=hM3.out.cells
 have HBK:=hide hx3
 have HF:=hide (many_of W3 m.exs.l.length 50 88 #[.pointer (some ⟨w.heap.size,0,none⟩),.pointer (some ⟨w2.heap.size,0,none⟩)] (exE m.g) (by omega) (by omega) (by intro i;unfold exE;dsimp only;(repeat' split)<;>omega)
  (fun x W=>callF Tryz.func88 (by kernel_rfl) (by kernel_rfl) _ W)
  (hide (fun i hi V hV=>exps1_any g w.heap.size w2.heap.size i m V (hide (hM3.out.below hV)) hz (hide (HX3.out.below hV)) (hide (by rw[HN0.out];exact(hV.block _ (blk_lt HBK.out)).trans HBK.out)) hi ht1)))
 have HW3:=hide hW3
 have HB3:Hid (Below w.heap.size w W3):=(HB.out.trans (h2.out.mono HB.out.size)).trans (hb3.mono (by have:=HB.out.size;have:=h2.out.size;omega))
 clear h2 hb3 hx3 hW3 HC
 go_upto_region 2 with fail
 rw[HW3.out]
 go_wp2_with fail
 refine HF.out.mono ?_;rintro e w4 ⟨rfl,h4⟩
 go_wp2_with fail
 go_ret
 exact⟨rfl,HB3.out.trans (h4.out.mono HB3.out.size)⟩
end Go.Proofs.YtomppgohoplemaaGreat
