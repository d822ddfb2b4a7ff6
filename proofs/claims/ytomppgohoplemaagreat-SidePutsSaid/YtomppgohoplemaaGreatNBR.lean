import Derived.Test.YtomppgohoplemaaGreatNBQ
import Derived.Test.YtomppgohoplemaaGreatNBN
import Derived.BigQuiet
set_option linter.unusedVariables false
namespace Go.Proofs.YtomppgohoplemaaGreat
open Go.RowKit Go.Maps
def SkP (W0:World) (m:MkS) (nj nc nk:Nat) (vo:Value) (J:Nat×Nat→Option Jmp) (C K:Nat→Option Nat) (ord:List (Nat×Nat)) (w:World) (e:Ending) (w':World):Prop :=
 ∃nk2,e=.returned (.tuple #[])∧nk2≤nk+3∧Hid (Br W0 w' m vo nj nc nk2 J C K ord)
set_option maxRecDepth 100000 in
set_option maxHeartbeats 3200000 in
theorem skip_no (W0:World) (m:MkS) (hB:Hid (MkB W0 m)) (ok:Hid (MkOk m)) (nj nc nk:Nat) (J:Nat×Nat→Option Jmp) (C K:Nat→Option Nat) (ord:List (Nat×Nat)) (vo:Value) (b:Nat) (e2 e3:Int) (y:XL) (w:World) (h:Hid (Br W0 w m vo nj nc nk J C K ord)) (hy:m.l.l[b]?=some y) (h4:y.code≠4) :
  Calls Tryz.prog 23 #[.pointer (some ⟨m.mb,0,none⟩),.agg #[.int .i64 (b:Int),.int .i64 e2,.int .i64 e3]] w (SkP W0 m nj nc nk vo J C K ord w):=by
 obtain⟨W,hW,hb1,hx1,hs1⟩:=box_new w #[.int .i64 (b:Int),.int .i64 e2,.int .i64 e3] 100
 have hBr:=h.out.below hb1
 have hmk:=hBr.mkin hB.out
 have hn:=ok.out.n
 have hi:b<m.l.l.length:=(List.getElem?_eq_some_iff.1 hy).1
 have hi3:(b:Int)<(m.l.l.length:Int):=by omega
 have c0:W.cell? ⟨m.mb,0,none⟩=some m.l.val:=cell_blk hmk.blk 0
 have d0:W.cell? ⟨w.heap.size,0,none⟩=some (.int .i64 (b:Int)):=cell_blk hx1 0
 obtain⟨ad,ha,_,k0,_⟩:=hmk.l.at_ (fun _=>rfl) hy
 have y0:W.cell? (ad.add (b*5))=some (.int .i64 y.code):=k0 _ rfl (by omega)
 unfold Sl.val at c0
 rw[ha]at c0
 obtain⟨bg,hbg⟩:∃bg,w.heap.size=bg:=⟨_,rfl⟩
 rw[hbg]at d0
 have f4:(y.code != 4)=true:=by simpa using h4
 have HW:=hide hW;have HBG:=hide hbg;have HBR:=hide hBr
 clear hW hb1 hx1 hs1 hBr hmk k0 ha hbg h4 hy
 go_enter Tryz.func23,Tryz.ntmps23
 go_upto_region 1 with fail
 rw[HW.out,HBG.out]
 go_wp2_with fail
 go_quiet (fail)
 go_wp2_with fail
 go_end0
 exact⟨nk,rfl,by omega,HBR.out.below (below_dr (Below.refl _ _) _)⟩
set_option maxRecDepth 100000 in
set_option maxHeartbeats 3200000 in
theorem skip_if (W0:World) (m:MkS) (hB:Hid (MkB W0 m)) (ok:Hid (MkOk m)) (nj nc nk:Nat) (J:Nat×Nat→Option Jmp) (C K:Nat→Option Nat) (ord:List (Nat×Nat)) (vo:Value) (b e3:Nat) (e2:Int) (y:XL) (w:World) (h:Hid (Br W0 w m vo nj nc nk J C K ord)) (hy:m.l.l[b]?=some y) (h4:y.code=4) (hnk:nk≤1000000) (he3:e3≤1000000) (he2:e2≤(e3:Int)) :
  Calls Tryz.prog 23 #[.pointer (some ⟨m.mb,0,none⟩),.agg #[.int .i64 (b:Int),.int .i64 e2,.int .i64 (e3:Int)]] w (SkP W0 m nj nc nk vo J C (if 0≤e2 then updF (updF (updF K b e3) b (e2.toNat+1)) e2.toNat e3 else updF K b e3) ord w):=by
 obtain⟨W,hW,hb1,hx1,hs1⟩:=box_new w #[.int .i64 (b:Int),.int .i64 e2,.int .i64 (e3:Int)] 100
 have hBr:=h.out.below hb1
 have hmk:=hBr.mkin hB.out
 have hn:=ok.out.n
 have hi:b<m.l.l.length:=(List.getElem?_eq_some_iff.1 hy).1
 have hi3:(b:Int)<(m.l.l.length:Int):=by omega
 obtain⟨bg,hbg⟩:∃bg,w.heap.size=bg:=⟨_,rfl⟩
 rw[hbg]at hx1 hs1
 have c0:W.cell? ⟨m.mb,0,none⟩=some m.l.val:=cell_blk hmk.blk 0
 have c4:W.cell? ⟨m.mb,4,none⟩=some (.pointer (some ⟨m.sg,0,none⟩)):=by rw[hB.out.mb];exact(cell_blk hBr.mkr 4).trans (by unfold MkS.cs;rfl)
 have s2:W.cell? ⟨m.sg,2,none⟩=some (.map (some (W0.heap.size+1+1))):=by rw[hB.out.sg];exact cell_blk hBr.blk 2
 have d0:W.cell? ⟨bg,0,none⟩=some (.int .i64 (b:Int)):=cell_blk hx1 0
 have d1:W.cell? ⟨bg,1,none⟩=some (.int .i64 e2):=cell_blk hx1 1
 have d2:W.cell? ⟨bg,2,none⟩=some (.int .i64 (e3:Int)):=cell_blk hx1 2
 obtain⟨ad,ha,_,k0,_⟩:=hmk.l.at_ (fun _=>rfl) hy
 have y0:W.cell? (ad.add (b*5))=some (.int .i64 y.code):=k0 _ rfl (by omega)
 unfold Sl.val at c0
 rw[ha]at c0
 rw[h4]at y0
 have HW:=hide hW;have HBG:=hide hbg;have HBR:=hide hBr;have HX:=hide hx1
 obtain⟨KK,hKK⟩:∃KK,(if 0≤e2 then updF (updF (updF K b e3) b (e2.toNat+1)) e2.toNat e3 else updF K b e3)=KK:=⟨_,rfl⟩
 rw[hKK]
 have HKK:=hide hKK
 clear hW hb1 hs1 hBr hmk k0 ha hbg h4 hy hKK
 go_enter Tryz.func23,Tryz.ntmps23
 go_upto_region 1 with fail
 rw[HW.out,HBG.out]
 go_wp2_with fail
 go_quiet (fail)
 go_upto_region 2 with fail
 obtain⟨W2,hW2⟩:∃W2,W.drewN nq=W2:=⟨_,rfl⟩
 rw[hW2]
 have HBR2:Hid (Br W0 W2 m vo nj nc nk J C K ord):=HBR.out.below (by rw[←hW2];exact below_dr (Below.refl _ _) _)
 have hX0:W2.heap[bg]?=some (.cells #[.int .i64 (b:Int),.int .i64 e2,.int .i64 (e3:Int)] 100 (0,0)):=by rw[←hW2];exact HX.out
 have c40:W2.cell? ⟨m.mb,4,none⟩=some (.pointer (some ⟨m.sg,0,none⟩)):=by rw[hB.out.mb];exact(cell_blk HBR2.out.mkr 4).trans (by unfold MkS.cs;rfl)
 have s20:W2.cell? ⟨m.sg,2,none⟩=some (.map (some (W0.heap.size+1+1))):=by rw[hB.out.sg];exact cell_blk HBR2.out.blk 2
 have b00:W2.cell? ⟨bg,0,none⟩=some (.int .i64 (b:Int)):=cell_blk hX0 0
 have b10:W2.cell? ⟨bg,1,none⟩=some (.int .i64 e2):=cell_blk hX0 1
 have b20:W2.cell? ⟨bg,2,none⟩=some (.int .i64 (e3:Int)):=cell_blk hX0 2
 have hbgs:W0.heap.size+5≤bg:=by rw[←HBG.out];exact h.out.sz
 clear hW2 c0 c4 s2 d0 d1 d2 y0 hx1
 have hD1:=HBR2.out.below (w':=W2.drew) (Below.refl _ _).drew
 obtain⟨z1,hmu1,hf1,hg1⟩:=hD1.k.put (x:=(b:Int)) (by unfold maxLen;omega) (ok64 (by omega) (by omega)) ((e3:Int))
 rw[natF_upd]at hf1
 have HE1:Hid (Br W0 z1 m vo nj nc (nk+1) J C (updF K b e3) ord):=hD1.putK hf1 (only_grown hg1)
 have hx1:=((only_grown hg1).block bg (by have:=blk_lt hX0;exact this) (by simp;omega)).trans hX0
 have hX1:z1.heap[bg]?=some (.cells #[.int .i64 (b:Int),.int .i64 e2,.int .i64 (e3:Int)] 100 (0,0)):=hx1
 have c41:z1.cell? ⟨m.mb,4,none⟩=some (.pointer (some ⟨m.sg,0,none⟩)):=by rw[hB.out.mb];exact(cell_blk HE1.out.mkr 4).trans (by unfold MkS.cs;rfl)
 have s21:z1.cell? ⟨m.sg,2,none⟩=some (.map (some (W0.heap.size+1+1))):=by rw[hB.out.sg];exact cell_blk HE1.out.blk 2
 have b01:z1.cell? ⟨bg,0,none⟩=some (.int .i64 (b:Int)):=cell_blk hX1 0
 have b11:z1.cell? ⟨bg,1,none⟩=some (.int .i64 e2):=cell_blk hX1 1
 have b21:z1.cell? ⟨bg,2,none⟩=some (.int .i64 (e3:Int)):=cell_blk hX1 2
 have hm1:(Instr.mapUpdate 92 (.map (some (W0.heap.size+1+1))) (.int .i64 ((b:Int))) (.int .i64 ((e3:Int)))).run Tryz.prog W2.drew=.ok () z1:=hmu1
 by_cases h0:0≤e2
 ·obtain⟨t2,rfl⟩:∃t2:Nat,e2=(t2:Int):=⟨e2.toNat,by omega⟩
  have hKK:=HKK.out
  rw[if_pos h0,Int.toNat_natCast]at hKK
  subst hKK
  have hD2:=HE1.out.below (w':=z1.drew) (Below.refl _ _).drew
  obtain⟨z2,hmu2,hf2,hg2⟩:=hD2.k.put (x:=(b:Int)) (by unfold maxLen;omega) (ok64 (by omega) (by omega)) (((t2+1:Nat):Int))
  rw[natF_upd]at hf2
  have HE2:Hid (Br W0 z2 m vo nj nc (nk+2) J C (updF (updF K b e3) b (t2+1)) ord):=hD2.putK hf2 (only_grown hg2)
  have hx2:=((only_grown hg2).block bg (by have:=blk_lt hX1;exact this) (by simp;omega)).trans hX1
  have hX2:z2.heap[bg]?=some (.cells #[.int .i64 (b:Int),.int .i64 (t2:Int),.int .i64 (e3:Int)] 100 (0,0)):=hx2
  have c42:z2.cell? ⟨m.mb,4,none⟩=some (.pointer (some ⟨m.sg,0,none⟩)):=by rw[hB.out.mb];exact(cell_blk HE2.out.mkr 4).trans (by unfold MkS.cs;rfl)
  have s22:z2.cell? ⟨m.sg,2,none⟩=some (.map (some (W0.heap.size+1+1))):=by rw[hB.out.sg];exact cell_blk HE2.out.blk 2
  have b02:z2.cell? ⟨bg,0,none⟩=some (.int .i64 (b:Int)):=cell_blk hX2 0
  have b12:z2.cell? ⟨bg,1,none⟩=some (.int .i64 (t2:Int)):=cell_blk hX2 1
  have b22:z2.cell? ⟨bg,2,none⟩=some (.int .i64 (e3:Int)):=cell_blk hX2 2
  have hm2:(Instr.mapUpdate 92 (.map (some (W0.heap.size+1+1))) (.int .i64 ((b:Int))) (.int .i64 ((t2:Int)+1))).run Tryz.prog z1.drew=.ok () z2:=hmu2
  have hD3:=HE2.out.below (w':=z2.drew) (Below.refl _ _).drew
  obtain⟨z3,hmu3,hf3,hg3⟩:=hD3.k.put (x:=(t2:Int)) (by unfold maxLen;omega) (ok64 (by omega) (by omega)) ((e3:Int))
  rw[natF_upd]at hf3
  have HE3:Hid (Br W0 z3 m vo nj nc (nk+3) J C (updF (updF (updF K b e3) b (t2+1)) t2 e3) ord):=hD3.putK hf3 (only_grown hg3)
  have hx3:=((only_grown hg3).block bg (by have:=blk_lt hX2;exact this) (by simp;omega)).trans hX2
  have hX3:z3.heap[bg]?=some (.cells #[.int .i64 (b:Int),.int .i64 (t2:Int),.int .i64 (e3:Int)] 100 (0,0)):=hx3
  have c43:z3.cell? ⟨m.mb,4,none⟩=some (.pointer (some ⟨m.sg,0,none⟩)):=by rw[hB.out.mb];exact(cell_blk HE3.out.mkr 4).trans (by unfold MkS.cs;rfl)
  have s23:z3.cell? ⟨m.sg,2,none⟩=some (.map (some (W0.heap.size+1+1))):=by rw[hB.out.sg];exact cell_blk HE3.out.blk 2
  have b03:z3.cell? ⟨bg,0,none⟩=some (.int .i64 (b:Int)):=cell_blk hX3 0
  have b13:z3.cell? ⟨bg,1,none⟩=some (.int .i64 (t2:Int)):=cell_blk hX3 1
  have b23:z3.cell? ⟨bg,2,none⟩=some (.int .i64 (e3:Int)):=cell_blk hX3 2
  have hm3:(Instr.mapUpdate 92 (.map (some (W0.heap.size+1+1))) (.int .i64 ((t2:Int))) (.int .i64 ((e3:Int)))).run Tryz.prog z2.drew=.ok () z3:=hmu3
  have h0b:decide ((0:Int)≤(t2:Int))=true:=decide_eq_true h0
  clear h0 hD1 hf1 hg1 hmu1 hx1 hD2 hf2 hg2 hmu2 hx2 hD3 hf3 hg3 hmu3 hx3
  go_region
  all_goals
   go_wp2_with fail
   go_region
   all_goals
    go_wp2_with fail
    go_region
    all_goals
     go_wp2_with fail
     go_end0
     exact⟨nk+3,rfl,by omega,HE3⟩
 ·have hKK:=HKK.out
  rw[if_neg h0]at hKK
  subst hKK
  have h0b:decide ((0:Int)≤e2)=false:=decide_eq_false h0
  clear hD1 hf1 hg1 hmu1 hx1
  go_region
  all_goals
   go_wp2_with fail
   go_end0
   exact⟨nk+1,rfl,by omega,HE1⟩
end Go.Proofs.YtomppgohoplemaaGreat
namespace Go.Proofs.YtomppgohoplemaaGreat
open Go.RowKit
theorem fit_nil (w:World):Calls Tryz.prog 41 #[.pointer none] w fun e w'=>e=.returned (.tuple #[.string ⟨#[]⟩,.int .i64 12])∧Hid (Below w.heap.size w w'):=by
 go_enter Tryz.func41,Tryz.ntmps41
 go_wp2_with fail
 go_ret2
 exact⟨rfl,Below.refl _ _⟩
set_option maxRecDepth 100000 in
set_option maxHeartbeats 1600000 in
theorem run_nil (f:Int) (w:World):Calls Tryz.prog 31 #[.pointer none,.int .i64 f] w (RunP w ([],0,12)):=by
 have HF:=hide (fit_nil w)
 go_enter Tryz.func31,Tryz.ntmps31
 go_wp2_with fail
 refine HF.out.mono ?_;rintro e w1 ⟨rfl,hb⟩
 go_wp2_with fail
 go_ret3
 exact⟨none,0,rfl,own_nil _ _ _ _,hb⟩
set_option maxRecDepth 100000 in
set_option maxHeartbeats 1600000 in
theorem run_unfit (g:Nat) (m:MoL) (f:Int) (w:World) (h:Hid (MoAt w g m)) (hz:Hid (MoSz m)) (hu:(unfitP m.g).2≠0) :
  Calls Tryz.prog 31 #[.pointer (some ⟨g,0,none⟩),.int .i64 f] w (RunP w ([],0,12)):=by
 have HF:=hide (fit_any g m w h hz)
 generalize unfitP m.g=u at *
 obtain⟨u1,u2⟩:=u
 simp only at HF hu
 have hne:((u2:Int) != 0)=true:=by simp;omega
 clear hu
 go_enter Tryz.func31,Tryz.ntmps31
 go_wp2_with fail
 refine HF.out.mono ?_;rintro e w1 ⟨rfl,hb⟩
 go_wp2_with fail
 go_ret3
 exact⟨none,0,rfl,own_nil _ _ _ _,hb⟩
set_option maxRecDepth 100000 in
set_option maxHeartbeats 1600000 in
theorem run_out (g:Nat) (m:MoL) (f:Int) (w:World) (h:Hid (MoAt w g m)) (hz:Hid (MoSz m)) (hu:(unfitP m.g).2=0) (hf:f<0∨(m.funcs.l.length:Int)≤f) :
  Calls Tryz.prog 31 #[.pointer (some ⟨g,0,none⟩),.int .i64 f] w (RunP w ([],0,2)):=by
 have HF:=hide (fit_any g m w h hz)
 rw[hu]at HF
 have HL:=hide (fun V (hV:Below w.heap.size w V)=>locals_out_any g m f V (hide (h.out.below hV)) hf)
 generalize (unfitP m.g).1=u1 at *
 clear hu hf
 go_enter Tryz.func31,Tryz.ntmps31
 go_wp2_with fail
 refine HF.out.mono ?_;rintro e w1 ⟨rfl,hb⟩
 go_wp2_with fail
 refine(HL.out _ hb.out).mono ?_;rintro e w2 ⟨s,rfl,hs,hr,hb2⟩
 go_wp2_with fail
 go_ret3
 exact⟨none,0,rfl,own_nil _ _ _ _,hb.out.trans (hb2.out.mono hb.out.size)⟩
set_option maxRecDepth 100000 in
set_option maxHeartbeats 3200000 in
theorem run_in (g:Nat) (m:MoL) (f:Nat) (y:FuL) (w:World) (ml:Int) (h:Hid (MoAt w g m)) (hz:Hid (MoSz m)) (hbz:Hid (∀y∈m.funcs.l,BdSz y.bd)) (hu:Hid ((unfitP m.g).2=0)) (hy:m.funcs.l[f]?=some y) (hml:Hid (w.cell? ⟨0,0,none⟩=some (.int .i64 ml))) :
  Calls Tryz.prog 31 #[.pointer (some ⟨g,0,none⟩),.int .i64 (f:Int)] w (RunP w (if errB y.bd.g≠0 then ([],0,errB y.bd.g)else runB2 m.g f)):=by
 have HF:=hide (fit_any g m w h hz)
 rw[hu.out]at HF
 obtain⟨un,hun⟩:∃un,(unfitP m.g).1=un:=⟨_,rfl⟩
 rw[hun]at HF
 clear hun
 have z1:=hz.out.imps;have z2:=hz.out.funcs;have z3:=hz.out.sigs
 have hlt:=lt_some hy
 have hym:=List.mem_of_getElem? hy
 have y1:=(hbz.out y hym).loc;have y2:=(hbz.out y hym).l
 obtain⟨fi,hfi⟩:∃fi:Nat,m.imps.l.length+f=fi:=⟨_,rfl⟩
 obtain⟨s,hs1,hs2,hs3⟩:=fit_sig hu.out (f:=fi) (by omega)
 have HL:=hide (fun V (hV:Below w.heap.size w V)=>locals_in_any g m f y V (hide (h.out.below hV)) hz hy (by omega))
 rw[hfi,hs1]at HL
 simp only[sP,Option.isSome_some]at HL
 have HS:=hide (fun V (hV:Below w.heap.size w V)=>msig_any g m (fi:Int) V (hide (h.out.below hV)) (by omega) (by omega) (by omega) (by omega) (by omega))
 rw[hs1]at HS
 simp only[sigV,Sl.val]at HS
 obtain⟨s5,s6⟩:=hz.out.sig s hs2
 have sfi:(m.imps.l.length:Int)+(f:Int)=(fi:Int):=by omega
 have HE:=hide (fun V (hV:Below w.heap.size w V)=>body_any y.bd V (hide ((h.out.below hV).in_.func y hym).2) (hide (hbz.out y hym)))
 have h1:¬((m.funcs.l.length:Int)≤(f:Int)):=by omega
 have h2:¬((f:Int)<0):=by omega
 have h3:(f:Int)<(m.funcs.l.length:Int):=by omega
 obtain⟨R,hR⟩:∃R,(if errB y.bd.g≠0 then ([],0,errB y.bd.g)else runB2 m.g f)=R:=⟨_,rfl⟩
 rw[hR]
 have HR:=hide hR
 obtain⟨en,hen⟩:∃en,errB y.bd.g=en:=⟨_,rfl⟩
 have HEN:=hide hen
 clear hR hen
 have HY:=hide hy;have HYM:=hide hym;have HFI:=hide hfi;have HS2:=hide hs2;have HS3:=hide hs3
 clear hy hym hfi hs1 hs2 hs3
 go_enter Tryz.func31,Tryz.ntmps31
 go_wp2_with fail
 refine HF.out.mono ?_;rintro e w1 ⟨rfl,hb1⟩
 go_wp2_with fail
 refine(HL.out _ hb1.out).mono ?_;rintro e w2 ⟨sl,rfl,hsl,hrl,hb2⟩
 have hB2:=hide (hb1.out.trans (hb2.out.mono hb1.out.size))
 have hM2:=h.out.below hB2.out
 obtain⟨_,_,c2,_,_,_,_,_,_,_⟩:=hM2.cells
 obtain⟨ad,ha,_,k0,kj⟩:=hM2.in_.funcs.at_ (fun _=>rfl) HY.out
 have q1:w2.cell? ⟨(ad.add (f*3)).block,(ad.add (f*3)).off+1,none⟩=some (.slice y.bd.loc.at_ y.bd.loc.l.length y.bd.loc.cap):=kj 1 (by omega) (by omega) _ rfl
 have q2:w2.cell? ⟨(ad.add (f*3)).block,(ad.add (f*3)).off+2,none⟩=some (.slice y.bd.l.at_ y.bd.l.l.length y.bd.l.cap):=kj 2 (by omega) (by omega) _ rfl
 rw[ha]at c2
 obtain⟨W3,hW3,hb3,hx3,hs3⟩:=box_new w2 #[.slice y.bd.loc.at_ y.bd.loc.l.length y.bd.loc.cap,.slice y.bd.l.at_ y.bd.l.l.length y.bd.l.cap] 76
 obtain⟨yg,hyg⟩:∃yg,w2.heap.size=yg:=⟨_,rfl⟩
 rw[hyg]at hx3
 have hB3:=hide (hB2.out.trans (hb3.mono hB2.out.size))
 have d0:=cell_blk hx3 0
 have d1:=cell_blk hx3 1
 simp at d0 d1
 have HX3:=hide hx3;have HW3:=hide hW3;have HYG:=hide hyg;have HRL:=hide (hrl.out.below hb3)
 clear k0 kj ha hM2 hx3 hW3 hyg hb3 hs3 hb1 hb2 hrl HF HL
 go_upto_region 8 with fail
 rw[HW3.out,HYG.out]
 go_wp2_with fail
 refine(HE.out _ hB3.out).mono ?_;rintro e w4 ⟨v,bs,rfl,_,hb4,_⟩
 rw[HEN.out]
 have hB4:=hide (hB3.out.trans (hb4.out.mono hB3.out.size))
 have HRL4:=hide (HRL.out.below hb4.out)
 have HX4:=hide ((hb4.out.block yg (blk_lt HX3.out)).trans HX3.out)
 clear d0 d1 c2 q1 q2 HX3 HRL hB2 HE
 by_cases he:en=0
 ·subst he
  have hM4:=h.out.below hB4.out
  obtain⟨_,c1,_,_,_,_,_,_,_,_⟩:=hM4.cells
  have e0:=cell_blk HX4.out 0
  have e1:=cell_blk HX4.out 1
  simp at e0 e1
  clear hM4
  go_wp2_with fail
  refine(HS.out _ hB4.out).mono ?_;rintro e w5 ⟨rfl,hb5⟩
  obtain⟨W6,hW6,hb6,hx6,hs6⟩:=box_new w5 #[.slice s.p.at_ s.p.l.length s.p.cap,.slice s.r.at_ s.r.l.length s.r.cap] 87
  obtain⟨sg,hsg⟩:∃sg,w5.heap.size=sg:=⟨_,rfl⟩
  rw[hsg]at hx6
  have hb46:Below w4.heap.size w4 W6:=hb5.out.trans (hb6.mono hb5.out.size)
  have hB6:=hide (hB4.out.trans (hb46.mono hB4.out.size))
  have HRL6:=hide (HRL4.out.below hb46)
  have HX6:=hide ((hb46.block yg (blk_lt HX4.out)).trans HX4.out)
  have HXS:=hide hx6;have HW6:=hide hW6;have HSG:=hide hsg
  have p0:=cell_blk hx6 0
  have p1:=cell_blk hx6 1
  simp at p0 p1
  clear hx6 hW6 hsg hb6 hs6 hb5 hb46 c1 e0 e1 HX4 HRL4 hB4
  obtain⟨bs,hbs⟩:∃bs,W6.heap.size=bs:=⟨_,rfl⟩
  obtain⟨W7,hW7,hb7,hx7,hs7⟩:=box_new W6 #[.bool false,.bool false,.slice s.r.at_ s.r.l.length s.r.cap,.int .i64 0,.bool false] 146
  obtain⟨W8,hW8,hb8,hx8,hs8⟩:=box_new W7 #[.pointer (some ⟨g,0,none⟩),.slice sl.at_ sl.l.length sl.cap,.slice s.p.at_ s.p.l.length s.p.cap,.slice s.r.at_ s.r.l.length s.r.cap,.slice none 0 0,.slice (some ⟨bs,0,none⟩) 1 1] 149
  rw[hbs]at hx7 hs7
  rw[hs7]at hx8 hs8
  have hb68:Below W6.heap.size W6 W8:=hb7.trans (hb8.mono hb7.size)
  have hM6:=hide (h.out.below hB6.out)
  have hsr6:=(hM6.out.in_.sig s HS2.out).2
  obtain⟨K,hK⟩:∃K:KX,K=⟨bs+1,bs,.pointer (some ⟨g,0,none⟩),.slice sl.at_ sl.l.length sl.cap,.slice s.p.at_ s.p.l.length s.p.cap,.slice s.r.at_ s.r.l.length s.r.cap,none⟩:=⟨_,rfl⟩
  have hKE:Hid (KE W6 K g m sl s.p s.r):=by subst hK;exact⟨rfl,rfl,rfl,rfl,hM6.out,HRL6.out,hsr6,by rw[hbs];exact Nat.le_refl _,fun q e=>by cases e⟩
  have hKbs:K.bs=bs:=by rw[hK]
  have hKcb:K.cb=bs+1:=by rw[hK]
  have hx78:=(hb8.block bs (by omega)).trans hx7
  have hCK:Hid (CK W8 (K.to none) (.slice none 0 0) (.slice (some ⟨bs,0,none⟩) 1 1) [⟨false,false,s.r,0,false⟩] []):=by
   subst hK
   refine⟨hx8,Nat.le_succ _,own_nil _ _ _ _,⟨by simp[CB.cs],.inr ⟨bs,1,#[.bool false,.bool false,.slice s.r.at_ s.r.l.length s.r.cap,.int .i64 0,.bool false],rfl,Nat.le_refl _,hx78,Nat.le_refl _,by unfold maxLen;omega,by simp,by simp[CB.cs,Sl.val]⟩⟩,fun e=>(by cases e),fun e=>?_,fun q e=>(by cases e),fun b hb=>?_,fun q e=>(by cases e)⟩
   ·exact absurd e (by simp[Value.ownBlock,KX.to])
   ·simp only[List.mem_singleton]at hb
    subst hb
    refine⟨hsr6.below hb68,fun h0 ad ha=>?_,fun h0 ad ha e=>by cases e⟩
    obtain⟨ad',ha',hlt',_⟩:=hsr6.r.2 h0
    have e3:ad'=ad:=by rw[ha]at ha';injection ha' with e;exact e.symm
    subst e3
    rw[hbs]at hlt'
    refine⟨by rw[hs8];omega,by show ad'.block≠bs+1;omega,fun e=>(by cases e),fun e=>?_⟩
    have e4:bs=ad'.block:=by simpa [Value.ownBlock]using e
    omega
  have hPE:Hid (peOf m.g f=⟨m.g,sl.l,s.p.l,s.r.l⟩):=by
   show _=_
   unfold peOf
   rw[show m.g.imps.length+f=fi from HFI.out,HS3.out,hsl.out]
   have:m.g.funcs.getD f noFu=y.g:=getD_some (by simp[MoL.g,HY.out])
   rw[this]
   rfl
  obtain⟨hall,_,hnest⟩:=errB_ok HEN.out
  have HALL:Hid (∀x∈y.bd.l.l,rightX x.x=true):=fun x hx=>hall x.x (List.mem_map.2 ⟨x,hx,rfl⟩)
  have hR2:Hid (runC (stepX (peOf m.g f)) (y.bd.l.l.map XL.x) (psOf [⟨false,false,s.r,0,false⟩] []) 0 []=R):=by
   have e1:=HR.out
   rw[HEN.out,if_neg (by omega)]at e1
   show _=_
   rw[←e1]
   unfold runB2
   have:m.g.funcs.getD f noFu=y.g:=getD_some (by simp[MoL.g,HY.out])
   rw[this,hPE.out]
   rfl
  have hI0:Hid (RunI (codesB y.bd.g) ((y.bd.l.l.drop 0).map (fun x=>x.code)) 0 (psOf [⟨false,false,s.r,0,false⟩] []) 1 initN):=by
   have:=RunI.start hnest (r:=s.r.l) s6
   rw[List.drop_zero]
   show RunI _ _ _ _ _ _
   rw[show (y.bd.l.l.map fun x=>x.code)=codesB y.bd.g from by simp[codesB,BdL.g,XL.x]]
   exact this
  have HB68:=hide hb68
  have HW7:=hide hW7;have HW8:=hide hW8;have HBS:=hide hbs;have HS8:=hide hs8;have HKB:=hide hKbs;have HKC:=hide hKcb
  have hml8:Hid (W6.cell? ⟨0,0,none⟩=some (.int .i64 ml)):=(hB6.out.cell (World.block_lt_of_cell? w _ hml.out)).trans hml.out
  have HX8:Hid (W8.heap[yg]?=some (.cells #[.slice y.bd.loc.at_ y.bd.loc.l.length y.bd.loc.cap,.slice y.bd.l.at_ y.bd.l.l.length y.bd.l.cap] 76 (0,0))):=(hb68.block yg (blk_lt HX6.out)).trans HX6.out
  have d1:=cell_blk HX8.out 1
  simp at d1
  clear hW7 hW8 hb7 hb8 hx7 hx8 hs7 hs8 hbs hK hKbs hKcb hx78 hb68 hsr6 hall hnest
  go_upto_region 12 with fail
  rw[HW6.out,HSG.out]
  go_upto_region 13 with fail
  rw[HBS.out,HW7.out,HW8.out]
  go_wp2_with fail
  go_loopw [17,18,19,20,77] (fun v a b c i w1=>∃(k:Nat) (vs vb:Value) (cs:List CB) (st:List UInt8) (hs:List Nat) (ns:NS),i=.int .i64 k∧k≤y.bd.l.l.length∧Hid (HT w1 (bs+2) vs vb v hs)∧Hid (CK w1 (K.to v.ownBlock) vs vb cs st)∧Hid (Below W6.heap.size W6 w1)∧hs.length=k∧Hid (RunI (codesB y.bd.g) ((y.bd.l.l.drop k).map (fun x=>x.code)) k (psOf cs st) cs.length ns)∧Hid (runC (stepX (peOf m.g f)) ((y.bd.l.l.drop k).map XL.x) (psOf cs st) k hs=R)) (fun _ _ _ _ i _=>y.bd.l.l.length-(intOf i).toNat)
  case atStart=>exact⟨0,_,_,_,_,[],initN,rfl,by omega,⟨own_nil _ _ _ _,fun q e=>by cases e⟩,hCK,HB68,rfl,hI0,hR2⟩
  case round =>
   obtain⟨k,vs,vb,cs,st,hs,ns,rfl,hk,hht,hck,hbw,hhl,hri,hrr⟩:=hrel
   have HHL:=hide hhl
   clear hhl
   by_cases hlt2:k<y.bd.l.l.length
   ·obtain⟨x,hx⟩:∃x,y.bd.l.l[k]?=some x:=⟨_,List.getElem?_eq_getElem hlt2⟩
    have hmem:=List.mem_of_getElem? hx
    have hdrop:y.bd.l.l.drop k=x::y.bd.l.l.drop (k+1):=by
     rw[List.drop_eq_getElem_cons hlt2]
     rw[List.getElem?_eq_getElem hlt2]at hx
     injection hx with hx
     rw[hx]
    have hin:=((hM6.out.below hbw.out).in_.func y HYM.out).2
    have hin6:=(hM6.out.in_.func y HYM.out).2
    obtain⟨ax,hax,_,k0,kj⟩:=hin.l.at_ (fun _=>rfl) hx
    have q0:wr.cell? (ax.add (k*5))=some (.int .i64 x.code):=k0 _ rfl (by omega)
    have q1:wr.cell? ⟨(ax.add (k*5)).block,(ax.add (k*5)).off+1,none⟩=some (.int .u64 (x.a:Int)):=kj 1 (by omega) (by omega) _ rfl
    have q2:wr.cell? ⟨(ax.add (k*5)).block,(ax.add (k*5)).off+2,none⟩=some (.int .u64 (x.b:Int)):=kj 2 (by omega) (by omega) _ rfl
    have q3:wr.cell? ⟨(ax.add (k*5)).block,(ax.add (k*5)).off+3,none⟩=some (.int .i64 x.al):=kj 3 (by omega) (by omega) _ rfl
    have q4:wr.cell? ⟨(ax.add (k*5)).block,(ax.add (k*5)).off+4,none⟩=some (.slice x.l.at_ x.l.l.length x.l.cap):=kj 4 (by omega) (by omega) _ rfl
    obtain⟨W9,hW9,hb9,hx9,hs9⟩:=box_new wr #[.int .i64 x.code,.int .u64 (x.a:Int),.int .u64 (x.b:Int),.int .i64 x.al,.slice x.l.at_ x.l.l.length x.l.cap] 131
    obtain⟨xg,hxg⟩:∃xg,wr.heap.size=xg:=⟨_,rfl⟩
    rw[hxg]at hx9
    have hck9:=hide (hck.out.quiet hb9)
    have hht9:=hide (hht.out.step (K:=K) (by rw[HKC.out];omega) (NW.of_below hb9))
    have hbw9:=hide (hbw.out.trans (hb9.mono hbw.out.size))
    have hinv:=hide ((by rw[hdrop]at hri;exact hri.out.inv:InvP (psOf cs st)))
    have hstl:st.length≤10000000:=by have:=hri.out.st;have h5:(psOf cs st).st.length=st.length:=rfl;omega
    have hcsl:cs.length≤100000:=by have:=hri.out.bl;omega
    have c4:W9.cell? ⟨bs+1,4,none⟩=some vs:=by rw[←HKC.out];exact hck9.out.c4
    obtain⟨As,qs,hvs,_,_⟩:=own_form hck9.out.os
    subst hvs
    have HW9:=hide hW9;have HXG:=hide hxg;have HX9:=hide hx9;have HXX:=hide hx;have HMEM:=hide hmem;have HDR:=hide hdrop
    have hroom:Room hs.length 1 8:=room_of (by have:=HHL.out;omega) (by omega)
    have hbse:bs+2≤W9.heap.size:=by have h7:K.cb<W9.heap.size:=hck9.out.size.2;have:=HKC.out;omega
    have hxu:Hid (u17.ownBlock≠some xg):=fun e=>by have:=own_lt hht.out.own _ e;omega
    rw[hax]
    clear hW9 hxg hb9 hx9 hs9 hx hmem hdrop hin k0 kj hax hck hht hbw
    go_upto_region 17 with fail
    rw[HXG.out,HW9.out]
    go_wp2_with (at_builtin;refine wpList_push rfl _ _ rfl (bs+2) int_elem u17 hs.length (hs.map hD) rfl W9 _ _ rfl hht9.out.own rfl rfl hroom hbse ?_;intro v' w' ho' hg';have hxa:=(hg'.only.block xg (blk_lt HX9.out) (fun hm=>hxu.out (by simpa using hm))).trans HX9.out;have i0:=cell_blk hxa 0;have i1:=cell_blk hxa 1;have i2:=cell_blk hxa 2;have i3:=cell_blk hxa 3;have i4:=cell_blk hxa 4;simp at i0 i1 i2 i3 i4;clear hxa)
    have hcb2:K.cb<bs+2:=by have:=HKC.out;omega
    obtain⟨hck10,hht10⟩:=hck9.out.grow hht9.out hcb2 hg' ho'
    have HCK:=hide hck10;have HHT:=hide hht10
    have hbw10:=hide (hbw9.out.trans (hg'.below hbw9.out.size (fun q hq=>by have:=own_ge hht9.out.own q hq;have:=HBS.out;omega)))
    obtain⟨RZ,hRZ⟩:∃RZ,stepX (peOf m.g f) (psOf cs st) x.x=RZ:=⟨_,rfl⟩
    have HSF:=hide (csafe_any (K.to v'.ownBlock) _ vb cs st x w' RZ HCK (fun V hV=>by
     obtain⟨r,hor,_,_⟩:=right_some (HALL.out x HMEM.out)
     have hst:=cstep_any (K.to v'.ownBlock) _ vb cs st x V W6 g m sl s.p s.r r ml (hide (HCK.out.quiet hV)) (hide (hKE.out.to_far v'.ownBlock (fun q hq=>by have:=own_ge HHT.out.own q hq;have:=HBS.out;omega))) hinv hstl hcsl (hide (hin6.num x HMEM.out)) (hide (hin6.lab x HMEM.out)) (hide (hbw10.out.trans (hV.mono hbw10.out.size))) hz (by have:=congrArg List.length hsl.out;rw[List.length_append]at this;omega) ((hbz.out y HYM.out).lab x HMEM.out) s6 hor (right_al (HALL.out x HMEM.out)) hml8
     have e1:stepX (peOf m.g f) (psOf cs st) x.x=stepP ⟨m.g,sl.l,s.p.l,s.r.l⟩ (psOf cs st) x.x r.form (widthN r.name.data.toList) (typesL r.takes) (typesL r.gives):=by
      unfold stepX
      rw[hor,hPE.out]
     rw[←e1,hRZ]at hst
     exact hst))
    have HRZ:=hide hRZ
    rw[show (K.to v'.ownBlock).cb=bs+1 from HKC.out]at HSF
    unfold insV2 at HSF
    clear hRZ ho' hg' hck10 hht10 c4 q0 q1 q2 q3 q4 hck9 hht9
    cases RZ with
    | bad n =>
     have hnz:=hide ((nz_step_x HRZ.out (by obtain⟨r,hor,_,_⟩:=right_some (HALL.out x HMEM.out);show (opRow x.x.code).isSome=true;rw[hor];rfl):n≠0))
     have hne:((n:Int) != 0)=true:=by have:=hnz.out;simp;omega
     have hRf:Hid (R=([],k,n)):=by
      have e1:=hrr.out
      rw[HDR.out,List.map_cons,runC,HRZ.out]at e1
      exact e1.symm
     unfold SafeP at HSF
     simp only at HSF
     go_wp2_with fail
     refine HSF.out.mono ?_;rintro e w11 ⟨rfl,hb11⟩
     have hfin:Hid (Below w.heap.size w w11):=by
      have h1:Below W6.heap.size w' w11:=hb11.out.mono (by show W6.heap.size≤K.bs;rw[HKB.out,HBS.out];exact Nat.le_refl _)
      exact hB6.out.trans ((hbw10.out.trans h1).mono hB6.out.size)
     clear i0 i1 i2 i3 i4 HSF hb11
     go_wp2_with fail
     go_ret3
     rw[hRf.out]
     exact⟨none,0,rfl,own_nil _ _ _ _,hfin⟩
    | ok s2 =>
     unfold SafeP at HSF
     simp only at HSF
     go_wp2_with fail
     refine HSF.out.mono ?_;rintro e w11 ⟨vs2,vb2,cs2,rfl,hk2,hn2,hbl2⟩
     have hps:psOf cs2 s2.st=s2:=psOf_eq hbl2.out
     have hl2:s2.bl.length=cs2.length:=by rw[hbl2.out,List.length_map]
     have hht11:=hide (HHT.out.step (K:=K) hcb2 hn2.out)
     have hbw11:Hid (Below W6.heap.size W6 w11):=hbw10.out.trans ((hn2.out.belowB HCK.out).mono (by show W6.heap.size≤K.bs;rw[HKB.out,HBS.out];exact Nat.le_refl _))
     have hri2:Hid (RunI (codesB y.bd.g) ((y.bd.l.l.drop (k+1)).map (fun x=>x.code)) (k+1) (psOf cs2 s2.st) cs2.length (stepN (codesB y.bd.g) x.code k ns).2):=by
      have e1:=hri.out
      rw[HDR.out,List.map_cons,show cs.length=(psOf cs st).bl.length from by simp[psOf]]at e1
      have e2:=RunI.step (x:=x.x) e1 HRZ.out (fun i=>by rw[hPE.out];exact MoL.sigs_r hz.out i)
      rw[hl2]at e2
      show RunI _ _ _ _ _ _
      rw[hps]
      exact e2
     have hrr2:Hid (runC (stepX (peOf m.g f)) ((y.bd.l.l.drop (k+1)).map XL.x) (psOf cs2 s2.st) (k+1) (hs++[st.length])=R):=by
      have e1:=hrr.out
      rw[HDR.out,List.map_cons,runC,HRZ.out]at e1
      show _=_
      rw[hps]
      exact e1
     have hhl2:Hid ((hs++[st.length]).length=k+1):=by show _=_;simp[HHL.out]
     clear i0 i1 i2 i3 i4 HSF hps hl2
     go_wp2_with fail
     go_roundw
     case rel=>exact⟨k+1,vs2,vb2,cs2,s2.st,hs++[st.length],_,by go_num,by omega,hht11,hk2,hbw11,hhl2.out,hri2,hrr2⟩
     case measure=>simp[intOf]<;>omega
   ·have hkn:k=y.bd.l.l.length:=by omega
    have hRf:Hid (R=(hs,0,0)):=by
     have e1:=hrr.out
     rw[List.drop_of_length_le (by omega),List.map_nil,runC]at e1
     exact e1.symm
    obtain⟨A9,c9,hv9,_,_⟩:=own_form hht.out.own
    subst hv9
    have HOW:=hide hht.out.own
    have hfin:Hid (Below w.heap.size w wr):=hB6.out.trans (hbw.out.mono hB6.out.size)
    have hlt3:(y.bd.l.l.length:Int)≤(k:Int):=by omega
    clear hlt2 hkn hht hck
    go_wp2_with fail
    go_ret3
    rw[hRf.out]
    exact⟨A9,c9,rfl,own_base HOW.out (fun q hq=>by have:=own_ge HOW.out q hq;have:=HBS.out;have:=hB6.out.size;omega),hfin⟩
 ·have hne:((en:Int) != 0)=true:=by simp;omega
  have HRB:Hid (R=([],0,en)):=by have:=HR.out;rw[HEN.out,if_pos he]at this;exact this.symm
  clear he
  go_wp2_with fail
  go_ret3
  rw[HRB.out]
  exact⟨none,0,rfl,own_nil _ _ _ _,hB4⟩
end Go.Proofs.YtomppgohoplemaaGreat
