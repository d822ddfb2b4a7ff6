import Derived.Test.YtmekgpdfiimofaaGreatDoorWBO
import Derived.Test.YtmekgpdfiimofaaGreatDoorWBK
import Derived.Test.YtmekgpdfiimofaaGreatDoorWBG
import Derived.Test.YtmekgpdfiimofaaGreatDoorWAX
import Derived.Deep.DeepCutAuto
import Derived.Deep.CutBlock
set_option linter.unusedVariables false
namespace Go.Proofs.YtmekgpdfiimofaaGreatDoor
open Go.RowKit
theorem unfit_el {m:Mo} {j n:Nat} {el:Nat→Nat} (hj:j<10) (hz:∀i,i<j→partE m i=0) (hp:partE m j=firstI el n) {k e:Nat} (hk:k<n) (h0:∀i,i<k→el i=0) (he:el k=e) (hne:e≠0):unfitP m=(partN j,e):=by
 have h1:partE m j=e:=by rw[hp,firstI_at hk h0 (by rw[he];exact hne),he]
 rw[unfit_at hj hz (by rw[h1];exact hne),h1]
theorem zero_next {f:Nat→Nat} {k:Nat} (h:∀i,i<k→f i=0) (hk:f k=0):∀i,i<k+1→f i=0:=fun i hi=>by
 rcases Nat.lt_or_ge i k with hlt|hge
 ·exact h i hlt
 ·obtain rfl:i=k:=by omega
  exact hk
theorem many_le {n most:Nat} {f:Nat→Nat} (h:¬most<n):manyI n most f=firstI f n:=by unfold manyI;rw[if_neg h]
theorem many_gt {n most:Nat} {f:Nat→Nat} (h:most<n):manyI n most f=15:=by unfold manyI;rw[if_pos h]
theorem num_ok {m:Mo} (H:∀j,j<3→partE m j=0) {f:Nat} (hf:f<m.all):inB (sigN m f) m.sigs.length=true:=by
 have h1:=manyI_ok (H 1 (by omega));have h2:fusE m=0:=H 2 (by omega)
 unfold fusE at h2
 split at h2
 ·contradiction
 unfold sigN
 split
 ·rename_i hlt
  have:=h1.2 f hlt
  unfold imE at this
  simp only at this
  split at this
  ·split at this
   ·rename_i hq;exact hq
   ·contradiction
  ·contradiction
 ·rename_i hge
  unfold Mo.all at hf
  have:=firstI_of_zero h2 (f-m.imps.length) (by omega)
  unfold fuE at this
  split at this
  ·rename_i hq;exact hq
  ·contradiction
theorem fit_sig3 {m:MoL} (H:∀j,j<7→partE m.g j=0) {f:Nat} (hf:f<m.imps.l.length+m.funcs.l.length):∃s,sigL m (f:Int)=some s∧s∈m.sigs.l∧sigOf m.g f=s.g:=by
 have hall:m.g.all=m.imps.l.length+m.funcs.l.length:=by simp[Mo.all,MoL.g]
 have hs:hasSig m.g f=true:=by unfold hasSig;rw[num_ok (fun j hj=>H j (by omega)) (by omega),hall,decide_eq_true hf];rfl
 obtain⟨s,h1,h2,h3,_⟩:=hasSig_yes hs
 exact⟨s,h1,h2,h3⟩
def UnfP (m:Mo) (w:World) (e:Ending) (w':World):Prop:=e=.returned (.tuple #[.string ⟨(unfitP m).1.toArray⟩,.int .i64 ((unfitP m).2:Int)])∧Hid (Below w.heap.size w w')
set_option maxRecDepth 100000 in
set_option maxHeartbeats 20000000 in
theorem lunfit_any (m:MoL) (w:World) (h:Hid (MoIn w m)) (hs:Hid (MoSm m)) :
  Calls Tryz.prog 13 #[.agg m.cs.toArray] w (UnfP m.g w):=by
 obtain⟨W,hW,hb,hx,hsz⟩:=box_new w m.cs.toArray 31
 obtain⟨xg,hxg⟩:∃xg,w.heap.size=xg:=⟨_,rfl⟩
 rw[hxg]at hx hsz
 have HCL:Hid (∀V,Below W.heap.size W V→(V.cell? ⟨xg,0,none⟩=some (.slice m.sigs.at_ m.sigs.l.length m.sigs.cap)∧V.cell? ⟨xg,1,none⟩=some (.slice m.imps.at_ m.imps.l.length m.imps.cap)∧V.cell? ⟨xg,2,none⟩=some (.slice m.funcs.at_ m.funcs.l.length m.funcs.cap)∧V.cell? ⟨xg,4,none⟩=some (.slice m.mems.at_ m.mems.l.length m.mems.cap)∧V.cell? ⟨xg,5,none⟩=some (.slice m.gls.at_ m.gls.l.length m.gls.cap)∧V.cell? ⟨xg,6,none⟩=some (.slice m.exs.at_ m.exs.l.length m.exs.cap)∧V.cell? ⟨xg,8,none⟩=some (.slice m.els.at_ m.els.l.length m.els.cap)∧V.cell? ⟨xg,9,none⟩=some (.slice m.das.at_ m.das.l.length m.das.cap)∧V.cell? ⟨xg,3,none⟩=some (.int .i64 m.table)∧V.cell? ⟨xg,7,none⟩=some (.int .i64 m.start))∧MoIn V m∧Below w.heap.size w V):=fun V hV=>by
  have hk:=(hV.block xg (by omega)).trans hx
  have hwV:Below w.heap.size w V:=hb.trans (hV.mono hb.size)
  exact⟨⟨cell_blk hk 0,cell_blk hk 1,cell_blk hk 2,cell_blk hk 4,cell_blk hk 5,cell_blk hk 6,cell_blk hk 8,cell_blk hk 9,cell_blk hk 3,cell_blk hk 7⟩,h.out.below hwV,hwV⟩
 have l_sigs:=hs.out.sigs
 have l_imps:=hs.out.imps
 have l_funcs:=hs.out.funcs
 have l_mems:=hs.out.mems
 have l_gls:=hs.out.gls
 have l_exs:=hs.out.exs
 have l_els:=hs.out.els
 have l_das:=hs.out.das
 obtain⟨all,hall⟩:∃all,m.imps.l.length+m.funcs.l.length=all:=⟨_,rfl⟩
 have hall2:m.g.all=all:=by rw[←hall];simp[Mo.all,MoL.g]
 have s1:(m.imps.l.length:Int)+(m.funcs.l.length:Int)=(all:Int):=by omega
 have l_all:all≤135:=by omega
 have HALL:=hide hall2;have HALL2:=hide hall
 have HZ0:Hid (∀i,i<0→partE m.g i=0):=fun i hi=>by omega
 have HBR:Hid (∀V,Below W.heap.size W V→Below w.heap.size w V):=fun V hV=>(HCL.out V hV).2.2
 have HB0:Hid (Below W.heap.size W W):=Below.refl _ _
 have HW:=hide hW;have HXG:=hide hxg
 obtain⟨⟨c0,c1,c2,c4,c5,c6,c8,c9,c3,c7⟩,_,_⟩:=HCL.out W (Below.refl _ _)
 clear hW hb hx hsz hxg hall hall2
 unfold MoL.cs Sl.val at HW ⊢
 go_enter Tryz.func13,Tryz.ntmps13
 go_upto_region 2 with fail
 rw[HW.out,HXG.out]
 by_cases hm0:50<m.sigs.l.length
 ·have hE:Hid (unfitP m.g=(partN 0,15)):=by
   have h1:partE m.g 0=15:=many_gt (by simpa [MoL.g]using hm0)
   show _=_
   rw[unfit_at (by omega) HZ0.out (by rw[h1];omega),h1]
  have hd:(50:Int)<(m.sigs.l.length:Int):=by omega
  clear hm0
  go_wp2_with fail
  go_ret2
  exact⟨by rw[hE.out];rfl,HBR.out _ HB0.out⟩
 ·have hd0:¬((50:Int)<(m.sigs.l.length:Int)):=by omega
  have HP0:Hid (partE m.g 0=firstI (sgE m.g) m.sigs.l.length):=by show manyI _ _ _=_;rw[many_le (by simpa [MoL.g]using hm0)];simp[MoL.g]
  clear hm0
  go_upto_block 0 with fail
  go_cut [] (fun wx=>Hid (∀i,i<0+1→partE m.g i=0)∧Hid (Below W.heap.size W wx))
  case first =>
   as_aux_lemma =>
    go_wp2_with fail
    go_loopw [5] (fun i w1=>∃k:Nat,i=.int .i64 k∧k≤m.sigs.l.length∧Hid (∀i,i<k→sgE m.g i=0)∧Hid (Below W.heap.size W w1)) (fun i _=>m.sigs.l.length-(intOf i).toNat)
    case atStart=>exact⟨0,rfl,by omega,fun i hi=>by omega,HB0⟩
    case round =>
    obtain⟨k,rfl,hk,hz,hbw⟩:=hrel
    clear c0 c1 c2 c4 c5 c6 c8 c9 c3 c7
    obtain⟨⟨c0,c1,c2,c4,c5,c6,c8,c9,c3,c7⟩,hin,_⟩:=HCL.out _ hbw.out
    have HIN:=hide hin
    clear hin
    by_cases hlt:k<m.sigs.l.length
    ·obtain⟨z,hzk⟩:∃z,m.sigs.l[k]?=some z:=⟨_,List.getElem?_eq_getElem hlt⟩
     have hzm:=List.mem_of_getElem? hzk
     obtain⟨ad,ha,_,k0,kj⟩:=HIN.out.sigs.at_ (fun _=>rfl) hzk
     have q0:wr.cell? (ad.add (k*2))=some (.slice z.p.at_ z.p.l.length z.p.cap):=k0 _ rfl (by omega)
     have q1:wr.cell? ⟨(ad.add (k*2)).block,(ad.add (k*2)).off+1,none⟩=some (.slice z.r.at_ z.r.l.length z.r.cap):=kj 1 (by omega) (by omega) _ rfl
     have HEL:Hid (sgE m.g k=if typedB z.p.l&&typedB z.r.l then 0 else 5):=by
      show sgE m.g k=_
      unfold sgE
      rw[show m.g.sigs.getD k noSg=z.g from getD_some (by simp[MoL.g,hzk])]
      all_goals rfl
     rw[ha]at c0
     have HC1:=hide (fun V (hV:Below wr.heap.size wr V)=>ltyped_any z.p V (hide ((HIN.out.sig z hzm).1.below hV)))
     have HC2:=hide (fun V (hV:Below wr.heap.size wr V)=>ltyped_any z.r V (hide ((HIN.out.sig z hzm).2.below hV)))
     generalize typedB z.p.l=a1 at *
     generalize typedB z.r.l=a2 at *
     clear k0 kj ha hzk hzm
     cases a1 with
     | false =>
      have hE:Hid (unfitP m.g=(partN 0,5)):=unfit_el (by omega) HZ0.out HP0.out hlt hz.out (by rw[HEL.out];rfl) (by omega)
      go_wp2_with fail
      refine(HC1.out _ (Below.refl _ _)).mono ?_;rintro e w1 ⟨rfl,rfl⟩
      go_wp2_with fail
      go_ret2
      exact⟨by rw[hE.out];rfl,HBR.out _ hbw.out⟩
     | true =>
      cases a2 with
      | false =>
       have hE:Hid (unfitP m.g=(partN 0,5)):=unfit_el (by omega) HZ0.out HP0.out hlt hz.out (by rw[HEL.out];rfl) (by omega)
       go_wp2_with fail
       refine(HC1.out _ (Below.refl _ _)).mono ?_;rintro e w1 ⟨rfl,rfl⟩
       go_wp2_with fail
       refine(HC2.out _ (Below.refl _ _)).mono ?_;rintro e w1 ⟨rfl,rfl⟩
       go_wp2_with fail
       go_ret2
       exact⟨by rw[hE.out];rfl,HBR.out _ hbw.out⟩
      | true =>
       have hnx:Hid (∀i,i<k+1→sgE m.g i=0):=zero_next hz.out (by rw[HEL.out];rfl)
       go_wp2_with fail
       refine(HC1.out _ (Below.refl _ _)).mono ?_;rintro e w1 ⟨rfl,rfl⟩
       go_wp2_with fail
       refine(HC2.out _ (Below.refl _ _)).mono ?_;rintro e w1 ⟨rfl,rfl⟩
       go_wp2_with fail
       go_roundw
       case rel=>exact⟨k+1,by go_num,by omega,hnx,hbw⟩
       case measure=>simp[intOf]<;>omega
    ·have hkn:k=m.sigs.l.length:=by omega
     have HZ1:Hid (∀i,i<0+1→partE m.g i=0):=zero_next HZ0.out (by rw[HP0.out];exact firstI_zero (fun i hi=>hz.out i (by omega)))
     have hlt3:(m.sigs.l.length:Int)≤(k:Int):=by omega
     clear hlt hkn hk hz HP0 HIN
     go_wp2_with fail
     go_meet
     exact⟨HZ1,hbw⟩
  case rest =>
  obtain⟨HZ1,HB1⟩:=hcut
  clear HP0 c0 c1 c2 c4 c5 c6 c8 c9 c3 c7
  obtain⟨⟨c0,c1,c2,c4,c5,c6,c8,c9,c3,c7⟩,_,_⟩:=HCL.out _ HB1.out
  by_cases hm1:20<m.imps.l.length
  ·have hE:Hid (unfitP m.g=(partN 1,15)):=by
    have h1:partE m.g 1=15:=many_gt (by simpa [MoL.g]using hm1)
    show _=_
    rw[unfit_at (by omega) HZ1.out (by rw[h1];omega),h1]
   have hd:(20:Int)<(m.imps.l.length:Int):=by omega
   clear hm1
   go_wp2_with fail
   go_ret2
   exact⟨by rw[hE.out];rfl,HBR.out _ HB1.out⟩
  ·have hd1:¬((20:Int)<(m.imps.l.length:Int)):=by omega
   have HP1:Hid (partE m.g 1=firstI (imE m.g) m.imps.l.length):=by show manyI _ _ _=_;rw[many_le (by simpa [MoL.g]using hm1)];simp[MoL.g]
   clear hm1
   go_upto_block 2 with fail
   go_cut [] (fun wx=>Hid (∀i,i<1+1→partE m.g i=0)∧Hid (Below W.heap.size W wx))
   case first =>
    as_aux_lemma =>
     go_wp2_with fail
     go_loopw [6] (fun i w1=>∃k:Nat,i=.int .i64 k∧k≤m.imps.l.length∧Hid (∀i,i<k→imE m.g i=0)∧Hid (Below W.heap.size W w1)) (fun i _=>m.imps.l.length-(intOf i).toNat)
     case atStart=>exact⟨0,rfl,by omega,fun i hi=>by omega,HB1⟩
     case round =>
     obtain⟨k,rfl,hk,hz,hbw⟩:=hrel
     clear c0 c1 c2 c4 c5 c6 c8 c9 c3 c7
     obtain⟨⟨c0,c1,c2,c4,c5,c6,c8,c9,c3,c7⟩,hin,_⟩:=HCL.out _ hbw.out
     have HIN:=hide hin
     clear hin
     by_cases hlt:k<m.imps.l.length
     ·obtain⟨z,hzk⟩:∃z,m.imps.l[k]?=some z:=⟨_,List.getElem?_eq_getElem hlt⟩
      have hzm:=List.mem_of_getElem? hzk
      obtain⟨ad,ha,_,k0,kj⟩:=HIN.out.imps.at_ (fun _=>rfl) hzk
      have q0:wr.cell? (ad.add (k*3))=some (.string ⟨z.m.toArray⟩):=k0 _ rfl (by omega)
      have q1:wr.cell? ⟨(ad.add (k*3)).block,(ad.add (k*3)).off+1,none⟩=some (.string ⟨z.n.toArray⟩):=kj 1 (by omega) (by omega) _ rfl
      have q2:wr.cell? ⟨(ad.add (k*3)).block,(ad.add (k*3)).off+2,none⟩=some (.int .i64 z.sig):=kj 2 (by omega) (by omega) _ rfl
      have HEL:Hid (imE m.g k=if nmB z.m&&nmB z.n then (if inB z.sig m.sigs.l.length then 0 else 2)else 16):=by
       show imE m.g k=_
       unfold imE
       rw[show m.g.imps.getD k noIm=z from getD_some (by simp[MoL.g,hzk])]
       all_goals (simp[MoL.g])
      rw[ha]at c1
      have hzl:=hs.out.imp z hzm
      have HC1:=hide (fun V=>lnamed_any z.m V (by omega))
      have HC2:=hide (fun V=>lnamed_any z.n V (by omega))
      have HC3:=hide (fun V=>lin_any z.sig m.sigs.l.length V)
      generalize nmB z.m=a1 at *
      generalize nmB z.n=a2 at *
      generalize inB z.sig m.sigs.l.length=a3 at *
      clear k0 kj ha hzk hzm hzl
      cases a1 with
      | false =>
       have hE:Hid (unfitP m.g=(partN 1,16)):=unfit_el (by omega) HZ1.out HP1.out hlt hz.out (by rw[HEL.out];rfl) (by omega)
       go_wp2_with fail
       refine(HC1.out _).mono ?_;rintro e w1 ⟨rfl,rfl⟩
       go_wp2_with fail
       go_ret2
       exact⟨by rw[hE.out];rfl,HBR.out _ hbw.out⟩
      | true =>
       cases a2 with
       | false =>
        have hE:Hid (unfitP m.g=(partN 1,16)):=unfit_el (by omega) HZ1.out HP1.out hlt hz.out (by rw[HEL.out];rfl) (by omega)
        go_wp2_with fail
        refine(HC1.out _).mono ?_;rintro e w1 ⟨rfl,rfl⟩
        go_wp2_with fail
        refine(HC2.out _).mono ?_;rintro e w1 ⟨rfl,rfl⟩
        go_wp2_with fail
        go_ret2
        exact⟨by rw[hE.out];rfl,HBR.out _ hbw.out⟩
       | true =>
        cases a3 with
        | false =>
         have hE:Hid (unfitP m.g=(partN 1,2)):=unfit_el (by omega) HZ1.out HP1.out hlt hz.out (by rw[HEL.out];rfl) (by omega)
         go_wp2_with fail
         refine(HC1.out _).mono ?_;rintro e w1 ⟨rfl,rfl⟩
         go_wp2_with fail
         refine(HC2.out _).mono ?_;rintro e w1 ⟨rfl,rfl⟩
         go_wp2_with fail
         go_quiet (refine quiet_eq (HC3.out _))
         rename_i nq
         have hbq:Hid (Below W.heap.size W (wr.drewN nq)):=below_dr hbw.out nq
         go_wp2_with fail
         go_ret2
         exact⟨by rw[hE.out];rfl,HBR.out _ hbq.out⟩
        | true =>
         have hnx:Hid (∀i,i<k+1→imE m.g i=0):=zero_next hz.out (by rw[HEL.out];rfl)
         go_wp2_with fail
         refine(HC1.out _).mono ?_;rintro e w1 ⟨rfl,rfl⟩
         go_wp2_with fail
         refine(HC2.out _).mono ?_;rintro e w1 ⟨rfl,rfl⟩
         go_wp2_with fail
         go_quiet (refine quiet_eq (HC3.out _))
         rename_i nq
         have hbq:Hid (Below W.heap.size W (wr.drewN nq)):=below_dr hbw.out nq
         go_wp2_with fail
         go_roundw
         case rel=>exact⟨k+1,by go_num,by omega,hnx,hbq⟩
         case measure=>simp[intOf]<;>omega
     ·have hkn:k=m.imps.l.length:=by omega
      have HZ2:Hid (∀i,i<1+1→partE m.g i=0):=zero_next HZ1.out (by rw[HP1.out];exact firstI_zero (fun i hi=>hz.out i (by omega)))
      have hlt3:(m.imps.l.length:Int)≤(k:Int):=by omega
      clear hlt hkn hk hz HP1 HIN
      go_wp2_with fail
      go_meet
      exact⟨HZ2,hbw⟩
   case rest =>
   obtain⟨HZ2,HB2⟩:=hcut
   clear HP1 c0 c1 c2 c4 c5 c6 c8 c9 c3 c7
   obtain⟨⟨c0,c1,c2,c4,c5,c6,c8,c9,c3,c7⟩,_,_⟩:=HCL.out _ HB2.out
   by_cases hm2:100<all
   ·have hE:Hid (unfitP m.g=(partN 2,15)):=by
     have h1:partE m.g 2=15:=by show fusE m.g=15;unfold fusE;rw[HALL.out,if_pos hm2]
     show _=_
     rw[unfit_at (by omega) HZ2.out (by rw[h1];omega),h1]
    have hd:(100:Int)<(all:Int):=by omega
    clear hm2
    go_wp2_with fail
    go_ret2
    exact⟨by rw[hE.out];rfl,HBR.out _ HB2.out⟩
   ·have hd2:¬((100:Int)<(all:Int)):=by omega
    have HP2:Hid (partE m.g 2=firstI (fuE m.g) m.funcs.l.length):=by show fusE m.g=_;unfold fusE;rw[HALL.out,if_neg hm2];simp[MoL.g]
    clear hm2
    go_upto_block 4 with fail
    go_cut [] (fun wx=>Hid (∀i,i<2+1→partE m.g i=0)∧Hid (Below W.heap.size W wx))
    case first =>
     as_aux_lemma =>
      go_wp2_with fail
      go_loopw [7] (fun i w1=>∃k:Nat,i=.int .i64 k∧k≤m.funcs.l.length∧Hid (∀i,i<k→fuE m.g i=0)∧Hid (Below W.heap.size W w1)) (fun i _=>m.funcs.l.length-(intOf i).toNat)
      case atStart=>exact⟨0,rfl,by omega,fun i hi=>by omega,HB2⟩
      case round =>
      obtain⟨k,rfl,hk,hz,hbw⟩:=hrel
      clear c0 c1 c2 c4 c5 c6 c8 c9 c3 c7
      obtain⟨⟨c0,c1,c2,c4,c5,c6,c8,c9,c3,c7⟩,hin,_⟩:=HCL.out _ hbw.out
      have HIN:=hide hin
      clear hin
      by_cases hlt:k<m.funcs.l.length
      ·obtain⟨z,hzk⟩:∃z,m.funcs.l[k]?=some z:=⟨_,List.getElem?_eq_getElem hlt⟩
       have hzm:=List.mem_of_getElem? hzk
       obtain⟨ad,ha,_,k0,kj⟩:=HIN.out.funcs.at_ (fun _=>rfl) hzk
       have q0:wr.cell? (ad.add (k*3))=some (.int .i64 z.sig):=k0 _ rfl (by omega)
       have HEL:Hid (fuE m.g k=if inB z.sig m.sigs.l.length then 0 else 2):=by
        show fuE m.g k=_
        unfold fuE
        rw[show m.g.funcs.getD k noFu=z.g from getD_some (by simp[MoL.g,hzk])]
        all_goals (simp[MoL.g,FuL.g])
       rw[ha]at c2
       have HC3:=hide (fun V=>lin_any z.sig m.sigs.l.length V)
       generalize inB z.sig m.sigs.l.length=a3 at *
       clear k0 kj ha hzk hzm
       cases a3 with
       | false =>
        have hE:Hid (unfitP m.g=(partN 2,2)):=unfit_el (by omega) HZ2.out HP2.out hlt hz.out (by rw[HEL.out];rfl) (by omega)
        go_wp2_with fail
        go_quiet (refine quiet_eq (HC3.out _))
        rename_i nq
        have hbq:Hid (Below W.heap.size W (wr.drewN nq)):=below_dr hbw.out nq
        go_wp2_with fail
        go_ret2
        exact⟨by rw[hE.out];rfl,HBR.out _ hbq.out⟩
       | true =>
        have hnx:Hid (∀i,i<k+1→fuE m.g i=0):=zero_next hz.out (by rw[HEL.out];rfl)
        go_wp2_with fail
        go_quiet (refine quiet_eq (HC3.out _))
        rename_i nq
        have hbq:Hid (Below W.heap.size W (wr.drewN nq)):=below_dr hbw.out nq
        go_wp2_with fail
        go_roundw
        case rel=>exact⟨k+1,by go_num,by omega,hnx,hbq⟩
        case measure=>simp[intOf]<;>omega
      ·have hkn:k=m.funcs.l.length:=by omega
       have HZ3:Hid (∀i,i<2+1→partE m.g i=0):=zero_next HZ2.out (by rw[HP2.out];exact firstI_zero (fun i hi=>hz.out i (by omega)))
       have hlt3:(m.funcs.l.length:Int)≤(k:Int):=by omega
       clear hlt hkn hk hz HP2 HIN
       go_wp2_with fail
       go_meet
       exact⟨HZ3,hbw⟩
    case rest =>
    obtain⟨HZ3,HB3⟩:=hcut
    clear HP2 c0 c1 c2 c4 c5 c6 c8 c9 c3 c7
    obtain⟨⟨c0,c1,c2,c4,c5,c6,c8,c9,c3,c7⟩,_,_⟩:=HCL.out _ HB3.out
    clear c0 c1 c2 c4 c5 c6 c8 c9 c3 c7
    obtain⟨⟨c0,c1,c2,c4,c5,c6,c8,c9,c3,c7⟩,hin,_⟩:=HCL.out _ HB3.out
    have HIN:=hide hin
    clear hin
    have htab:=HIN.out.table
    unfold I64 at htab
    have HTB:Hid (partE m.g 3=if m.table < -1 then 2 else if 1000<m.table then 15 else 0):=rfl
    by_cases ht1:m.table < -1
    ·have hE:Hid (unfitP m.g=(partN 3,2)):=by
      have h1:partE m.g 3=2:=by rw[HTB.out,if_pos ht1]
      show _=_
      rw[unfit_at (by omega) HZ3.out (by rw[h1];omega),h1]
     go_wp2_with fail
     go_ret2
     exact⟨by rw[hE.out];rfl,HBR.out _ HB3.out⟩
    by_cases ht2:1000<m.table
    ·have hE:Hid (unfitP m.g=(partN 3,15)):=by
      have h1:partE m.g 3=15:=by rw[HTB.out,if_neg ht1,if_pos ht2]
      show _=_
      rw[unfit_at (by omega) HZ3.out (by rw[h1];omega),h1]
     go_wp2_with fail
     go_ret2
     exact⟨by rw[hE.out];rfl,HBR.out _ HB3.out⟩
    have HZ4:Hid (∀i,i<3+1→partE m.g i=0):=zero_next HZ3.out (by rw[HTB.out,if_neg ht1,if_neg ht2])
    have HB4:=HB3
    clear HTB
    by_cases hm4:4<m.mems.l.length
    ·have hE:Hid (unfitP m.g=(partN 4,15)):=by
      have h1:partE m.g 4=15:=many_gt (by simpa [MoL.g]using hm4)
      show _=_
      rw[unfit_at (by omega) HZ4.out (by rw[h1];omega),h1]
     have hd:(4:Int)<(m.mems.l.length:Int):=by omega
     clear hm4
     go_wp2_with fail
     go_ret2
     exact⟨by rw[hE.out];rfl,HBR.out _ HB4.out⟩
    ·have hd4:¬((4:Int)<(m.mems.l.length:Int)):=by omega
     have HP4:Hid (partE m.g 4=firstI (lmE m.g) m.mems.l.length):=by show manyI _ _ _=_;rw[many_le (by simpa [MoL.g]using hm4)];simp[MoL.g]
     clear hm4
     go_upto_block 6 with fail
     go_cut [] (fun wx=>Hid (∀i,i<4+1→partE m.g i=0)∧Hid (Below W.heap.size W wx))
     case first =>
      as_aux_lemma =>
       go_wp2_with fail
       go_loopw [8] (fun i w1=>∃k:Nat,i=.int .i64 k∧k≤m.mems.l.length∧Hid (∀i,i<k→lmE m.g i=0)∧Hid (Below W.heap.size W w1)) (fun i _=>m.mems.l.length-(intOf i).toNat)
       case atStart=>exact⟨0,rfl,by omega,fun i hi=>by omega,HB4⟩
       case round =>
       obtain⟨k,rfl,hk,hz,hbw⟩:=hrel
       clear c0 c1 c2 c4 c5 c6 c8 c9 c3 c7
       obtain⟨⟨c0,c1,c2,c4,c5,c6,c8,c9,c3,c7⟩,hin,_⟩:=HCL.out _ hbw.out
       have HIN:=hide hin
       clear hin
       by_cases hlt:k<m.mems.l.length
       ·obtain⟨z,hzk⟩:∃z,m.mems.l[k]?=some z:=⟨_,List.getElem?_eq_getElem hlt⟩
        have hzm:=List.mem_of_getElem? hzk
        obtain⟨ad,ha,_,k0,kj⟩:=HIN.out.mems.at_ (fun _=>rfl) hzk
        have q0:wr.cell? (ad.add (k*3))=some (.int .i64 z.mn):=k0 _ rfl (by omega)
        have q1:wr.cell? ⟨(ad.add (k*3)).block,(ad.add (k*3)).off+1,none⟩=some (.int .i64 z.mx):=kj 1 (by omega) (by omega) _ rfl
        have q2:wr.cell? ⟨(ad.add (k*3)).block,(ad.add (k*3)).off+2,none⟩=some (.bool z.wide):=kj 2 (by omega) (by omega) _ rfl
        have HEL:Hid (lmE m.g k=if limB z.mn z.mx 65536 then 0 else 5):=by
         show lmE m.g k=_
         unfold lmE
         rw[show m.g.mems.getD k noLm=z from getD_some (by simp[MoL.g,hzk])]
         all_goals rfl
        rw[ha]at c4
        obtain⟨W9,hW9,hb9,hx9,_⟩:=box_new wr #[.int .i64 z.mn,.int .i64 z.mx,.bool z.wide] 68
        obtain⟨yg,hyg⟩:∃yg,wr.heap.size=yg:=⟨_,rfl⟩
        rw[hyg]at hx9
        have hb9w:Hid (Below W.heap.size W W9):=hbw.out.trans (hb9.mono hbw.out.size)
        have d0:=cell_blk hx9 0
        have d1:=cell_blk hx9 1
        have d2:=cell_blk hx9 2
        simp at d0 d1 d2
        have HX9:=hide hx9;have HW9:=hide hW9;have HYG:=hide hyg
        obtain⟨⟨c0z,c1z,c2z,c4z,c5z,c6z,c8z,c9z,c3z,c7z⟩,hin9,_⟩:=HCL.out _ hb9w.out
        clear k0 kj ha hzk hzm hx9 hW9 hyg hb9 hin9
        go_upto_region 35 with fail
        rw[HYG.out,HW9.out]
        clear c0 c1 c2 c4 c5 c6 c8 c9 c3 c7 q0 q1 q2
        by_cases e1:z.mn<0
        ·have e1b:decide (z.mn<0)=true:=decide_eq_true e1
         have hE:Hid (unfitP m.g=(partN 4,5)):=unfit_el (by omega) HZ4.out HP4.out hlt hz.out (by rw[HEL.out,if_neg (by unfold limB;simp;omega)]) (by omega)
         go_wp2_with fail
         go_ret2
         exact⟨by rw[hE.out];rfl,HBR.out _ hb9w.out⟩
        ·have e1b:decide (z.mn<0)=false:=decide_eq_false e1
         have e1n:0≤z.mn:=by omega
         by_cases e2:(65536:Int)<z.mn
         ·have e2b:decide ((65536:Int)<z.mn)=true:=decide_eq_true e2
          have hE:Hid (unfitP m.g=(partN 4,5)):=unfit_el (by omega) HZ4.out HP4.out hlt hz.out (by rw[HEL.out,if_neg (by unfold limB;simp;omega)]) (by omega)
          go_wp2_with fail
          go_ret2
          exact⟨by rw[hE.out];rfl,HBR.out _ hb9w.out⟩
         ·have e2b:decide ((65536:Int)<z.mn)=false:=decide_eq_false e2
          have e2n:z.mn≤65536:=by omega
          by_cases e3:(0:Int)≤z.mx
          ·have e3b:decide ((0:Int)≤z.mx)=true:=decide_eq_true e3
           by_cases e4:z.mx<z.mn
           ·have e4b:decide (z.mx<z.mn)=true:=decide_eq_true e4
            have hE:Hid (unfitP m.g=(partN 4,5)):=unfit_el (by omega) HZ4.out HP4.out hlt hz.out (by rw[HEL.out,if_neg (by unfold limB;simp;omega)]) (by omega)
            go_wp2_with fail
            go_ret2
            exact⟨by rw[hE.out];rfl,HBR.out _ hb9w.out⟩
           ·have e4b:decide (z.mx<z.mn)=false:=decide_eq_false e4
            have e4n:z.mn≤z.mx:=by omega
            by_cases e5:(65536:Int)<z.mx
            ·have e5b:decide ((65536:Int)<z.mx)=true:=decide_eq_true e5
             have hE:Hid (unfitP m.g=(partN 4,5)):=unfit_el (by omega) HZ4.out HP4.out hlt hz.out (by rw[HEL.out,if_neg (by unfold limB;simp;omega)]) (by omega)
             go_wp2_with fail
             go_ret2
             exact⟨by rw[hE.out];rfl,HBR.out _ hb9w.out⟩
            ·have e5b:decide ((65536:Int)<z.mx)=false:=decide_eq_false e5
             have e5n:z.mx≤65536:=by omega
             have hnx:Hid (∀i,i<k+1→lmE m.g i=0):=zero_next hz.out (by rw[HEL.out,if_pos (by unfold limB;simp;omega)])
             go_wp2_with fail
             go_roundw
             case rel=>exact⟨k+1,by go_num,by omega,hnx,hb9w⟩
             case measure=>simp[intOf]<;>omega
          ·have e3b:decide ((0:Int)≤z.mx)=false:=decide_eq_false e3
           have e3n:z.mx<0:=by omega
           have hnx:Hid (∀i,i<k+1→lmE m.g i=0):=zero_next hz.out (by rw[HEL.out,if_pos (by unfold limB;simp;omega)])
           go_wp2_with fail
           go_roundw
           case rel=>exact⟨k+1,by go_num,by omega,hnx,hb9w⟩
           case measure=>simp[intOf]<;>omega
       ·have hkn:k=m.mems.l.length:=by omega
        have HZ5:Hid (∀i,i<4+1→partE m.g i=0):=zero_next HZ4.out (by rw[HP4.out];exact firstI_zero (fun i hi=>hz.out i (by omega)))
        have hlt3:(m.mems.l.length:Int)≤(k:Int):=by omega
        clear hlt hkn hk hz HP4 HIN
        go_wp2_with fail
        go_meet
        exact⟨HZ5,hbw⟩
     case rest =>
     obtain⟨HZ5,HB5⟩:=hcut
     clear HP4 c0 c1 c2 c4 c5 c6 c8 c9 c3 c7
     obtain⟨⟨c0,c1,c2,c4,c5,c6,c8,c9,c3,c7⟩,_,_⟩:=HCL.out _ HB5.out
     by_cases hm5:50<m.gls.l.length
     ·have hE:Hid (unfitP m.g=(partN 5,15)):=by
       have h1:partE m.g 5=15:=many_gt (by simpa [MoL.g]using hm5)
       show _=_
       rw[unfit_at (by omega) HZ5.out (by rw[h1];omega),h1]
      have hd:(50:Int)<(m.gls.l.length:Int):=by omega
      clear hm5
      go_wp2_with fail
      go_ret2
      exact⟨by rw[hE.out];rfl,HBR.out _ HB5.out⟩
     ·have hd5:¬((50:Int)<(m.gls.l.length:Int)):=by omega
      have HP5:Hid (partE m.g 5=firstI (glE m.g) m.gls.l.length):=by show manyI _ _ _=_;rw[many_le (by simpa [MoL.g]using hm5)];simp[MoL.g]
      clear hm5
      go_upto_block 8 with fail
      go_cut [] (fun wx=>Hid (∀i,i<5+1→partE m.g i=0)∧Hid (Below W.heap.size W wx))
      case first =>
       as_aux_lemma =>
        go_wp2_with fail
        go_loopw [10] (fun i w1=>∃k:Nat,i=.int .i64 k∧k≤m.gls.l.length∧Hid (∀i,i<k→glE m.g i=0)∧Hid (Below W.heap.size W w1)) (fun i _=>m.gls.l.length-(intOf i).toNat)
        case atStart=>exact⟨0,rfl,by omega,fun i hi=>by omega,HB5⟩
        case round =>
        obtain⟨k,rfl,hk,hz,hbw⟩:=hrel
        clear c0 c1 c2 c4 c5 c6 c8 c9 c3 c7
        obtain⟨⟨c0,c1,c2,c4,c5,c6,c8,c9,c3,c7⟩,hin,_⟩:=HCL.out _ hbw.out
        have HIN:=hide hin
        clear hin
        by_cases hlt:k<m.gls.l.length
        ·obtain⟨z,hzk⟩:∃z,m.gls.l[k]?=some z:=⟨_,List.getElem?_eq_getElem hlt⟩
         have hzm:=List.mem_of_getElem? hzk
         obtain⟨ad,ha,_,k0,kj⟩:=HIN.out.gls.at_ (fun _=>rfl) hzk
         have q0:wr.cell? (ad.add (k*3))=some (.int .u8 (z.t.toNat:Int)):=k0 _ rfl (by omega)
         have q1:wr.cell? ⟨(ad.add (k*3)).block,(ad.add (k*3)).off+1,none⟩=some (.bool z.mu):=kj 1 (by omega) (by omega) _ rfl
         have q2:wr.cell? ⟨(ad.add (k*3)).block,(ad.add (k*3)).off+2,none⟩=some (.int .u64 (z.v:Int)):=kj 2 (by omega) (by omega) _ rfl
         have HEL:Hid (glE m.g k=if z.t==126||(z.t==127&&decide (z.v≤4294967295))then 0 else 5):=by
          show glE m.g k=_
          unfold glE
          rw[show m.g.gls.getD k noGl=z from getD_some (by simp[MoL.g,hzk])]
          all_goals rfl
         rw[ha]at c5
         obtain⟨W9,hW9,hb9,hx9,_⟩:=box_new wr #[.int .u8 (z.t.toNat:Int),.bool z.mu,.int .u64 (z.v:Int)] 94
         obtain⟨yg,hyg⟩:∃yg,wr.heap.size=yg:=⟨_,rfl⟩
         rw[hyg]at hx9
         have hb9w:Hid (Below W.heap.size W W9):=hbw.out.trans (hb9.mono hbw.out.size)
         have d0:=cell_blk hx9 0
         have d1:=cell_blk hx9 1
         have d2:=cell_blk hx9 2
         simp at d0 d1 d2
         have HX9:=hide hx9;have HW9:=hide hW9;have HYG:=hide hyg
         obtain⟨⟨c0z,c1z,c2z,c4z,c5z,c6z,c8z,c9z,c3z,c7z⟩,hin9,_⟩:=HCL.out _ hb9w.out
         have e126:(z.t==126)=decide (z.t.toNat=126):=by rw[Bool.eq_iff_iff];simp[←UInt8.toNat_inj]
         have e127:(z.t==127)=decide (z.t.toNat=127):=by rw[Bool.eq_iff_iff];simp[←UInt8.toNat_inj]
         rw[e126,e127]at HEL
         clear k0 kj ha hzk hzm hx9 hW9 hyg hb9 hin9 e126 e127
         go_upto_region 43 with fail
         rw[HYG.out,HW9.out]
         clear c0 c1 c2 c4 c5 c6 c8 c9 c3 c7 q0 q1 q2
         generalize z.t.toNat=tn at *
         by_cases e6:tn=126
         ·have f6:((tn:Int) != 126)=false:=by simp;omega
          have hnx:Hid (∀i,i<k+1→glE m.g i=0):=zero_next hz.out (by rw[HEL.out,decide_eq_true e6];rfl)
          clear e6
          go_wp2_with fail
          go_roundw
          case rel=>exact⟨k+1,by go_num,by omega,hnx,hb9w⟩
          case measure=>simp[intOf]<;>omega
         ·have f6:((tn:Int) != 126)=true:=by simp;omega
          by_cases e7:tn=127
          ·have f7:((tn:Int) != 127)=false:=by simp;omega
           by_cases e8:z.v≤4294967295
           ·have f8:decide (4294967295<z.v)=false:=decide_eq_false (by omega)
            have f9:decide ((4294967295:Int)<(z.v:Int))=false:=decide_eq_false (by omega)
            have hnx:Hid (∀i,i<k+1→glE m.g i=0):=zero_next hz.out (by rw[HEL.out,decide_eq_false e6,decide_eq_true e7,decide_eq_true e8];rfl)
            clear e6 e7 e8
            go_wp2_with fail
            go_roundw
            case rel=>exact⟨k+1,by go_num,by omega,hnx,hb9w⟩
            case measure=>simp[intOf]<;>omega
           ·have f8:decide (4294967295<z.v)=true:=decide_eq_true (by omega)
            have f9:decide ((4294967295:Int)<(z.v:Int))=true:=decide_eq_true (by omega)
            have hE:Hid (unfitP m.g=(partN 5,5)):=unfit_el (by omega) HZ5.out HP5.out hlt hz.out (by rw[HEL.out,decide_eq_false e6,decide_eq_true e7,decide_eq_false e8];rfl) (by omega)
            clear e6 e7 e8
            go_wp2_with fail
            go_ret2
            exact⟨by rw[hE.out];rfl,HBR.out _ hb9w.out⟩
          ·have f7:((tn:Int) != 127)=true:=by simp;omega
           have hE:Hid (unfitP m.g=(partN 5,5)):=unfit_el (by omega) HZ5.out HP5.out hlt hz.out (by rw[HEL.out,decide_eq_false e6,decide_eq_false e7];rfl) (by omega)
           clear e6 e7
           go_wp2_with fail
           go_ret2
           exact⟨by rw[hE.out];rfl,HBR.out _ hb9w.out⟩
        ·have hkn:k=m.gls.l.length:=by omega
         have HZ6:Hid (∀i,i<5+1→partE m.g i=0):=zero_next HZ5.out (by rw[HP5.out];exact firstI_zero (fun i hi=>hz.out i (by omega)))
         have hlt3:(m.gls.l.length:Int)≤(k:Int):=by omega
         clear hlt hkn hk hz HP5 HIN
         go_wp2_with fail
         go_meet
         exact⟨HZ6,hbw⟩
      case rest =>
      obtain⟨HZ6,HB6⟩:=hcut
      clear HP5 c0 c1 c2 c4 c5 c6 c8 c9 c3 c7
      obtain⟨⟨c0,c1,c2,c4,c5,c6,c8,c9,c3,c7⟩,_,_⟩:=HCL.out _ HB6.out
      by_cases hm6:50<m.exs.l.length
      ·have hE:Hid (unfitP m.g=(partN 6,15)):=by
        have h1:partE m.g 6=15:=many_gt (by simpa [MoL.g]using hm6)
        show _=_
        rw[unfit_at (by omega) HZ6.out (by rw[h1];omega),h1]
       have hd:(50:Int)<(m.exs.l.length:Int):=by omega
       clear hm6
       go_wp2_with fail
       go_ret2
       exact⟨by rw[hE.out];rfl,HBR.out _ HB6.out⟩
      ·have hd6:¬((50:Int)<(m.exs.l.length:Int)):=by omega
       have HP6:Hid (partE m.g 6=firstI (exE m.g) m.exs.l.length):=by show manyI _ _ _=_;rw[many_le (by simpa [MoL.g]using hm6)];simp[MoL.g]
       clear hm6
       go_upto_block 10 with fail
       go_cut [] (fun wx=>Hid (∀i,i<6+1→partE m.g i=0)∧Hid (Below W.heap.size W wx))
       case first =>
        skip
        go_wp2_with fail
        go_loopw [12] (fun i w1=>∃k:Nat,i=.int .i64 k∧k≤m.exs.l.length∧Hid (∀i,i<k→exE m.g i=0)∧Hid (Below W.heap.size W w1)) (fun i _=>m.exs.l.length-(intOf i).toNat)
        case atStart=>exact⟨0,rfl,by omega,fun i hi=>by omega,HB6⟩
        case round =>
        obtain⟨k,rfl,hk,hz,hbw⟩:=hrel
        clear c0 c1 c2 c4 c5 c6 c8 c9 c3 c7
        obtain⟨⟨c0,c1,c2,c4,c5,c6,c8,c9,c3,c7⟩,hin,_⟩:=HCL.out _ hbw.out
        have HIN:=hide hin
        clear hin
        by_cases hlt:k<m.exs.l.length
        ·obtain⟨z,hzk⟩:∃z,m.exs.l[k]?=some z:=⟨_,List.getElem?_eq_getElem hlt⟩
         have hzm:=List.mem_of_getElem? hzk
         obtain⟨ad,ha,_,k0,kj⟩:=HIN.out.exs.at_ (fun _=>rfl) hzk
         have q0:wr.cell? (ad.add (k*3))=some (.string ⟨z.name.toArray⟩):=k0 _ rfl (by omega)
         have q1:wr.cell? ⟨(ad.add (k*3)).block,(ad.add (k*3)).off+1,none⟩=some (.int .i64 z.kind):=kj 1 (by omega) (by omega) _ rfl
         have q2:wr.cell? ⟨(ad.add (k*3)).block,(ad.add (k*3)).off+2,none⟩=some (.int .i64 z.ix):=kj 2 (by omega) (by omega) _ rfl
         have HEL:Hid (exE m.g k=if !nmB z.name||(m.exs.l.take k).any (fun y=>y.name==z.name)then 16 else if exK m.g z then 0 else 2):=by
          show exE m.g k=_
          unfold exE
          rw[show m.g.exs.getD k noEx=z from getD_some (by simp[MoL.g,hzk])]
          all_goals (simp[MoL.g])
         have hzl:=hs.out.ex z hzm
         have HC1:=hide (fun V=>lnamed_any z.name V (by omega))
         rw[ha]at c6
         obtain⟨W9,hW9,hb9,hx9,_⟩:=box_new wr #[.string ⟨z.name.toArray⟩,.int .i64 z.kind,.int .i64 z.ix] 96
         obtain⟨yg,hyg⟩:∃yg,wr.heap.size=yg:=⟨_,rfl⟩
         rw[hyg]at hx9
         have hb9w:Hid (Below W.heap.size W W9):=hbw.out.trans (hb9.mono hbw.out.size)
         have d0:=cell_blk hx9 0
         have d1:=cell_blk hx9 1
         have d2:=cell_blk hx9 2
         simp at d0 d1 d2
         have HX9:=hide hx9;have HW9:=hide hW9;have HYG:=hide hyg
         obtain⟨⟨c0z,c1z,c2z,c4z,c5z,c6z,c8z,c9z,c3z,c7z⟩,hin9,_⟩:=HCL.out _ hb9w.out
         clear k0 kj ha hzk hzm hx9 hW9 hyg hb9 hin9 hzl
         go_upto_region 51 with fail
         rw[HYG.out,HW9.out]
         clear c0 c1 c2 c4 c5 c6 c8 c9 c3 c7 q0 q1 q2
         have HNM:Hid (nmB z.name=nmB z.name):=rfl
         obtain⟨a1,ha1⟩:∃a1,nmB z.name=a1:=⟨_,rfl⟩
         rw[ha1]at HC1 HEL
         clear ha1 HNM
         cases a1 with
         | false =>
          as_aux_lemma =>
           have hE:Hid (unfitP m.g=(partN 6,16)):=unfit_el (by omega) HZ6.out HP6.out hlt hz.out (by rw[HEL.out];rfl) (by omega)
           go_wp2_with fail
           refine(HC1.out _).mono ?_;rintro e w1 ⟨rfl,rfl⟩
           go_wp2_with fail
           go_ret2
           exact⟨by rw[hE.out];rfl,HBR.out _ hb9w.out⟩
         | true =>
          go_wp2_with fail
          refine(HC1.out _).mono ?_;rintro e w1 ⟨rfl,rfl⟩
          go_wp2_with fail
          go_loopw [14] (fun i w2=>∃t:Nat,i=.int .i64 t∧t≤k∧Hid (∀y∈m.exs.l.take t,(y.name==z.name)=false)∧Hid (Below W9.heap.size W9 w2)) (fun i _=>k-(intOf i).toNat)
          case atStart=>exact⟨0,rfl,by omega,(fun y hy=>by simp at hy),Below.refl _ _⟩
          case round =>
          obtain⟨t,rfl,htk,hno,hb2⟩:=hrel
          have hbV:Hid (Below W.heap.size W wr):=hb9w.out.trans (hb2.out.mono hb9w.out.size)
          have hxV:=(hb2.out.block yg (blk_lt HX9.out)).trans HX9.out
          obtain⟨⟨c0,c1,c2,c4,c5,c6,c8,c9,c3,c7⟩,hinV,_⟩:=HCL.out _ hbV.out
          have g0:=cell_blk hxV 0
          have g1:=cell_blk hxV 1
          have g2:=cell_blk hxV 2
          simp at g0 g1 g2
          by_cases hlt2:t<k
          ·obtain⟨y,hy⟩:∃y,m.exs.l[t]?=some y:=⟨_,List.getElem?_eq_getElem (by omega)⟩
           obtain⟨ae,hae,_,k0,kj⟩:=hinV.exs.at_ (fun _=>rfl) hy
           have u0:wr.cell? (ae.add (t*3))=some (.string ⟨y.name.toArray⟩):=k0 _ rfl (by omega)
           have ht3:(t:Int)<(m.exs.l.length:Int):=by omega
           have ht4:(t:Int)<(k:Int):=by omega
           rw[hae]at c6
           have htake:m.exs.l.take (t+1)=m.exs.l.take t++[y]:=by rw[List.take_add_one,hy];rfl
           have HTK:=hide htake;have HYY:=hide hy
           obtain⟨d,hd⟩:∃d,(y.name==z.name)=d:=⟨_,rfl⟩
           have HD:=hide hd
           clear k0 kj hae hy htake hinV hxV c0z c1z c2z c4z c5z c6z c8z c9z c3z c7z
           cases d with
           | true =>
            as_aux_lemma =>
             have hE:Hid (unfitP m.g=(partN 6,16)):=unfit_el (by omega) HZ6.out HP6.out hlt hz.out (by
              rw[HEL.out,if_pos]
              have:(m.exs.l.take k).any (fun y=>y.name==z.name)=true:=by
               rw[List.any_eq_true]
               exact⟨y,List.mem_of_getElem? (i:=t) (by rw[List.getElem?_take_of_lt hlt2];exact HYY.out),HD.out⟩
              rw[this];rfl) (by omega)
             clear hlt2
             go_wp2_with fail
             go_quiet (fail)
             rename_i nq
             have hbq:Hid (Below W.heap.size W (wr.drewN nq)):=below_dr hbV.out nq
             go_wp2_with fail
             go_ret2
             exact⟨by rw[hE.out];rfl,HBR.out _ hbq.out⟩
           | false =>
            have hno2:Hid (∀y∈m.exs.l.take (t+1),(y.name==z.name)=false):=by
             show ∀_,_
             rw[HTK.out]
             intro y2 hy2
             rcases List.mem_append.1 hy2 with hy2|hy2
             ·exact hno.out y2 hy2
             ·simp only[List.mem_singleton]at hy2;subst hy2;exact HD.out
            clear hlt2
            go_wp2_with fail
            go_quiet (fail)
            rename_i nq
            have hbq:Hid (Below W9.heap.size W9 (wr.drewN nq)):=below_dr hb2.out nq
            go_wp2_with fail
            go_roundw
            case rel=>exact⟨t+1,by go_num,by omega,hno2,hbq⟩
            case measure=>simp[intOf]<;>omega
          ·have htn:t=k:=by omega
           have hany:(m.exs.l.take k).any (fun y=>y.name==z.name)=false:=by
            rw[List.any_eq_false]
            intro y hy
            rw[←htn]at hy
            rw[hno.out y hy];simp
           rw[hany]at HEL
           have ht5:(k:Int)≤(t:Int):=by omega
           clear hany htn hno hlt2 hinV hxV htk hb2 c0z c1z c2z c4z c5z c6z c8z c9z c3z c7z
           have HEL2:Hid (exE m.g k=if exK m.g z then 0 else 2):=HEL
           clear HEL
           have HI1:=hide (fun V=>lin_any z.ix all V)
           have HI2:=hide (fun V=>lin_any z.ix m.mems.l.length V)
           have HI3:=hide (fun V=>lin_any z.ix m.gls.l.length V)
           go_upto_region 58 with fail
           go_cut [15] (fun q wx=>q=.bool (exK m.g z)∧wx=wr)
           case first =>
            as_aux_lemma =>
             have HEX:Hid (exK m.g z=((z.kind==0&&inB z.ix all)||((z.kind==1&&(decide (0≤m.table)&&z.ix==0))||((z.kind==2&&inB z.ix m.mems.l.length)||(z.kind==3&&inB z.ix m.gls.l.length))))):=by show _=_;unfold exK;rw[HALL.out];rfl
             generalize inB z.ix all=b0 at *
             generalize inB z.ix m.mems.l.length=b2 at *
             generalize inB z.ix m.gls.l.length=b3 at *
             by_cases y0:z.kind=0
             ·skip
              have kb0:(z.kind==0)=true:=by simp;omega
              have kb1:(z.kind==1)=false:=by simp;omega
              have kb2:(z.kind==2)=false:=by simp;omega
              have kb3:(z.kind==3)=false:=by simp;omega
              clear y0
              cases b0 with
              | false =>
               go_wp2_with fail
               refine(HI1.out _).mono ?_;rintro e w1 ⟨rfl,rfl⟩
               go_wp2_with fail
               go_meet
               exact⟨by rw[HEX.out,kb0,kb1,kb2,kb3];rfl,rfl⟩
              | true =>
               go_wp2_with fail
               refine(HI1.out _).mono ?_;rintro e w1 ⟨rfl,rfl⟩
               go_wp2_with fail
               go_meet
               exact⟨by rw[HEX.out,kb0,kb1,kb2,kb3];rfl,rfl⟩
             by_cases y1:z.kind=1
             ·skip
              have kb0:(z.kind==0)=false:=by simp;omega
              have kb1:(z.kind==1)=true:=by simp;omega
              have kb2:(z.kind==2)=false:=by simp;omega
              have kb3:(z.kind==3)=false:=by simp;omega
              clear y0 y1
              by_cases y5:0≤m.table
              ·have y6:decide ((0:Int)≤m.table)=true:=decide_eq_true y5
               cases y7:(z.ix==0) with
               | false =>
                go_wp2_with fail
                go_meet
                exact⟨by rw[HEX.out,kb0,kb1,kb2,kb3,y6,y7];rfl,rfl⟩
               | true =>
                go_wp2_with fail
                go_meet
                exact⟨by rw[HEX.out,kb0,kb1,kb2,kb3,y6,y7];rfl,rfl⟩
              ·have y6:decide ((0:Int)≤m.table)=false:=decide_eq_false y5
               have y8:m.table<0:=by omega
               go_wp2_with fail
               go_meet
               exact⟨by rw[HEX.out,kb0,kb1,kb2,kb3,y6];rfl,rfl⟩
             by_cases y2:z.kind=2
             ·skip
              have kb0:(z.kind==0)=false:=by simp;omega
              have kb1:(z.kind==1)=false:=by simp;omega
              have kb2:(z.kind==2)=true:=by simp;omega
              have kb3:(z.kind==3)=false:=by simp;omega
              clear y0 y1 y2
              cases b2 with
              | false =>
               go_wp2_with fail
               refine(HI2.out _).mono ?_;rintro e w1 ⟨rfl,rfl⟩
               go_wp2_with fail
               go_meet
               exact⟨by rw[HEX.out,kb0,kb1,kb2,kb3];rfl,rfl⟩
              | true =>
               go_wp2_with fail
               refine(HI2.out _).mono ?_;rintro e w1 ⟨rfl,rfl⟩
               go_wp2_with fail
               go_meet
               exact⟨by rw[HEX.out,kb0,kb1,kb2,kb3];rfl,rfl⟩
             by_cases y3:z.kind=3
             ·skip
              have kb0:(z.kind==0)=false:=by simp;omega
              have kb1:(z.kind==1)=false:=by simp;omega
              have kb2:(z.kind==2)=false:=by simp;omega
              have kb3:(z.kind==3)=true:=by simp;omega
              clear y0 y1 y2 y3
              cases b3 with
              | false =>
               go_wp2_with fail
               refine(HI3.out _).mono ?_;rintro e w1 ⟨rfl,rfl⟩
               go_wp2_with fail
               go_meet
               exact⟨by rw[HEX.out,kb0,kb1,kb2,kb3];rfl,rfl⟩
              | true =>
               go_wp2_with fail
               refine(HI3.out _).mono ?_;rintro e w1 ⟨rfl,rfl⟩
               go_wp2_with fail
               go_meet
               exact⟨by rw[HEX.out,kb0,kb1,kb2,kb3];rfl,rfl⟩
             have kb0:(z.kind==0)=false:=by simp;omega
             have kb1:(z.kind==1)=false:=by simp;omega
             have kb2:(z.kind==2)=false:=by simp;omega
             have kb3:(z.kind==3)=false:=by simp;omega
             clear y0 y1 y2 y3
             go_wp2_with fail
             go_meet
             exact⟨by rw[HEX.out,kb0,kb1,kb2,kb3];rfl,rfl⟩
           case rest =>
           obtain⟨rfl,hwc⟩:=hcut
           rw[hwc]
           clear hwc HI1 HI2 HI3 g0 g1 g2
           generalize exK m.g z=q at *
           cases q with
           | false =>
            as_aux_lemma =>
             have hE:Hid (unfitP m.g=(partN 6,2)):=unfit_el (by omega) HZ6.out HP6.out hlt hz.out (by rw[HEL2.out];rfl) (by omega)
             go_wp2_with fail
             go_ret2
             exact⟨by rw[hE.out];rfl,HBR.out _ hbV.out⟩
           | true =>
            have hnx:Hid (∀i,i<k+1→exE m.g i=0):=zero_next hz.out (by rw[HEL2.out];rfl)
            go_wp2_with fail
            go_roundw
            case rel=>exact⟨k+1,by go_num,by omega,hnx,hbV⟩
            case measure=>simp[intOf]<;>omega
        ·have hkn:k=m.exs.l.length:=by omega
         have HZ7:Hid (∀i,i<6+1→partE m.g i=0):=zero_next HZ6.out (by rw[HP6.out];exact firstI_zero (fun i hi=>hz.out i (by omega)))
         have hlt3:(m.exs.l.length:Int)≤(k:Int):=by omega
         clear hlt hkn hk hz HP6 HIN
         go_wp2_with fail
         go_meet
         exact⟨HZ7,hbw⟩
       case rest =>
       obtain⟨HZ7,HB7⟩:=hcut
       clear HP6 c0 c1 c2 c4 c5 c6 c8 c9 c3 c7
       obtain⟨⟨c0,c1,c2,c4,c5,c6,c8,c9,c3,c7⟩,_,_⟩:=HCL.out _ HB7.out
       as_aux_lemma =>
        clear c0 c1 c2 c4 c5 c6 c8 c9 c3 c7
        obtain⟨⟨c0,c1,c2,c4,c5,c6,c8,c9,c3,c7⟩,hin,_⟩:=HCL.out _ HB7.out
        have HIN:=hide hin
        clear hin
        have hst:=HIN.out.start
        unfold I64 at hst
        have HST:Hid (partE m.g 7=if m.start=-1 then 0 else if inB m.start all then (if (sigOf m.g m.start.toNat).p.length+(sigOf m.g m.start.toNat).r.length=0 then 0 else 5)else 2):=by show stE m.g=_;unfold stE;rw[HALL.out];rfl
        have HIS:=hide (fun V=>lin_any m.start all V)
        go_upto_if 281 with fail
        go_cut [] (fun wx=>Hid (partE m.g 7=0)∧Hid (Below W.heap.size W wx))
        case first =>
         as_aux_lemma =>
          by_cases t1:m.start=-1
          ·have h1:Hid (partE m.g 7=0):=by show _=_;rw[HST.out,if_pos t1]
           have t2:(m.start != -1)=false:=by simp;omega
           clear t1
           go_wp2_with fail
           go_meet
           exact⟨h1,HB7⟩
          have t2:(m.start != -1)=true:=by simp;omega
          rw[if_neg t1]at HST
          by_cases t3:inB m.start all=true
          ·obtain⟨t4,t5⟩:=inB_iff.1 t3
           obtain⟨f,hf⟩:∃f:Nat,m.start=(f:Int):=⟨m.start.toNat,by omega⟩
           have hfl:f<m.imps.l.length+m.funcs.l.length:=by have:=HALL2.out;omega
           have hsg:=fit_sig3 HZ7.out hfl
           obtain⟨s,hs1,hs2,hs3⟩:=hsg
           rw[if_pos t3,hf,Int.toNat_natCast,hs3]at HST
           rw[t3]at HIS
           have HCS:=hide (lsig_any m f s)
           rw[←hf]at HCS hs1
           have hsm:=hs.out.sig s hs2
           have HST2:Hid (partE m.g 7=if s.p.l.length+s.r.l.length=0 then 0 else 5):=HST
           clear hf hfl HST t1 t3 t4 t5
           go_wp2_with fail
           refine(HIS.out _).mono ?_;rintro e w1 ⟨rfl,rfl⟩
           go_wp2_with fail
           clear c0 c1 c2 c4 c5 c6 c8 c9 c3 c7
           obtain⟨⟨c0,c1,c2,c4,c5,c6,c8,c9,c3,c7⟩,hin,_⟩:=HCL.out _ HB7.out
           have HSG:=hide (HCS.out _ (hide hin) (by omega) (by omega) hs1)
           clear hin hs1 hs2 hs3
           unfold MoL.cs Sl.val at HSG
           go_wp2_with fail
           refine HSG.out.mono ?_;rintro e w2 ⟨rfl,hb2⟩
           obtain⟨W9,hW9,hb9,hx9,_⟩:=box_new w2 #[.slice s.p.at_ s.p.l.length s.p.cap,.slice s.r.at_ s.r.l.length s.r.cap] 72
           obtain⟨yg,hyg⟩:∃yg,w2.heap.size=yg:=⟨_,rfl⟩
           rw[hyg]at hx9
           have hb9w:Hid (Below W.heap.size W W9):=HB7.out.trans ((hb2.out.trans (hb9.mono hb2.out.size)).mono HB7.out.size)
           have d0:=cell_blk hx9 0
           have d1:=cell_blk hx9 1
           simp at d0 d1
           have HW9:=hide hW9;have HYG:=hide hyg
           clear hW9 hyg hx9 hb9 hb2 HSG HCS c0 c1 c2 c4 c5 c6 c8 c9 c3 c7
           go_upto_region 65 with fail
           rw[HYG.out,HW9.out]
           obtain⟨pn,hpn⟩:∃pn,s.p.l.length=pn:=⟨_,rfl⟩
           obtain⟨rn,hrn⟩:∃rn,s.r.l.length=rn:=⟨_,rfl⟩
           rw[hpn,hrn]at HST2 hsm
           rw[hpn]at d0
           rw[hrn]at d1
           clear hpn hrn
           by_cases t6:pn+rn=0
           ·have t7:(pn:Int)+(rn:Int)=0:=by omega
            have h1:Hid (partE m.g 7=0):=by show _=_;rw[HST2.out,if_pos t6]
            have t8:decide ((0:Int)<(pn:Int)+(rn:Int))=false:=decide_eq_false (by omega)
            clear t6 t7
            go_wp2_with fail
            go_meet
            exact⟨h1,hb9w⟩
           ·have hE:Hid (unfitP m.g=(partN 7,5)):=by
             have h1:partE m.g 7=5:=by rw[HST2.out,if_neg t6]
             show _=_
             rw[unfit_at (by omega) HZ7.out (by rw[h1];omega),h1]
            have t8:decide ((0:Int)<(pn:Int)+(rn:Int))=true:=decide_eq_true (by omega)
            clear t6
            go_wp2_with fail
            go_ret2
            exact⟨by rw[hE.out];rfl,HBR.out _ hb9w.out⟩
          ·have t4:inB m.start all=false:=by simpa using t3
           rw[t4]at HIS
           have hE:Hid (unfitP m.g=(partN 7,2)):=by
            have h1:partE m.g 7=2:=by rw[HST.out,if_neg t3]
            show _=_
            rw[unfit_at (by omega) HZ7.out (by rw[h1];omega),h1]
           clear t1 t3 t4
           go_wp2_with fail
           refine(HIS.out _).mono ?_;rintro e w1 ⟨rfl,rfl⟩
           go_wp2_with fail
           go_ret2
           exact⟨by rw[hE.out];rfl,HBR.out _ HB7.out⟩
        case rest =>
        obtain⟨h7,HB8⟩:=hcut
        have HZ8:Hid (∀i,i<7+1→partE m.g i=0):=zero_next HZ7.out h7.out
        clear hst HST HIS h7 c0 c1 c2 c4 c5 c6 c8 c9 c3 c7
        obtain⟨⟨c0,c1,c2,c4,c5,c6,c8,c9,c3,c7⟩,_,_⟩:=HCL.out _ HB8.out
        by_cases hm8:20<m.els.l.length
        ·have hE:Hid (unfitP m.g=(partN 8,15)):=by
          have h1:partE m.g 8=15:=many_gt (by simpa [MoL.g]using hm8)
          show _=_
          rw[unfit_at (by omega) HZ8.out (by rw[h1];omega),h1]
         have hd:(20:Int)<(m.els.l.length:Int):=by omega
         clear hm8
         go_wp2_with fail
         go_ret2
         exact⟨by rw[hE.out];rfl,HBR.out _ HB8.out⟩
        ·have hd8:¬((20:Int)<(m.els.l.length:Int)):=by omega
         have HP8:Hid (partE m.g 8=firstI (elE m.g) m.els.l.length):=by show manyI _ _ _=_;rw[many_le (by simpa [MoL.g]using hm8)];simp[MoL.g]
         clear hm8
         go_upto_block 14 with fail
         go_cut [] (fun wx=>Hid (∀i,i<8+1→partE m.g i=0)∧Hid (Below W.heap.size W wx))
         case first =>
          as_aux_lemma =>
           go_wp2_with fail
           go_loopw [17] (fun i w1=>∃k:Nat,i=.int .i64 k∧k≤m.els.l.length∧Hid (∀i,i<k→elE m.g i=0)∧Hid (Below W.heap.size W w1)) (fun i _=>m.els.l.length-(intOf i).toNat)
           case atStart=>exact⟨0,rfl,by omega,fun i hi=>by omega,HB8⟩
           case round =>
           obtain⟨k,rfl,hk,hz,hbw⟩:=hrel
           clear c0 c1 c2 c4 c5 c6 c8 c9 c3 c7
           obtain⟨⟨c0,c1,c2,c4,c5,c6,c8,c9,c3,c7⟩,hin,_⟩:=HCL.out _ hbw.out
           have HIN:=hide hin
           clear hin
           by_cases hlt:k<m.els.l.length
           ·obtain⟨z,hzk⟩:∃z,m.els.l[k]?=some z:=⟨_,List.getElem?_eq_getElem hlt⟩
            have hzm:=List.mem_of_getElem? hzk
            obtain⟨ad,ha,_,k0,kj⟩:=HIN.out.els.at_ (fun _=>rfl) hzk
            have q0:wr.cell? (ad.add (k*2))=some (.int .u64 (z.at_:Int)):=k0 _ rfl (by omega)
            have q1:wr.cell? ⟨(ad.add (k*2)).block,(ad.add (k*2)).off+1,none⟩=some (.slice z.fs.at_ z.fs.l.length z.fs.cap):=kj 1 (by omega) (by omega) _ rfl
            have HEL:Hid (elE m.g k=if 20<z.fs.l.length then 15 else if m.table<0∨4294967295<z.at_ then 2 else if z.fs.l.all (fun f=>inB f all)then 0 else 2):=by
             show elE m.g k=_
             unfold elE
             rw[show m.g.els.getD k noEl=z.g from getD_some (by simp[MoL.g,hzk])]
             all_goals ((rw[HALL.out];rfl))
            have hzl:=hs.out.el z hzm
            have hfr:=hide (HIN.out.el z hzm).2.1
            have HZK:=hide hzk
            rw[ha]at c8
            clear k0 kj ha hzk hzm
            by_cases v1:20<z.fs.l.length
            ·have v2:(20:Int)<(z.fs.l.length:Int):=by omega
             have hE:Hid (unfitP m.g=(partN 8,15)):=unfit_el (by omega) HZ8.out HP8.out hlt hz.out (by rw[HEL.out,if_pos v1]) (by omega)
             clear v1
             go_wp2_with fail
             go_ret2
             exact⟨by rw[hE.out];rfl,HBR.out _ hbw.out⟩
            ·have v2:¬((20:Int)<(z.fs.l.length:Int)):=by omega
             rw[if_neg v1]at HEL
             clear v1
             by_cases v3:m.table<0
             ·skip
              have hE:Hid (unfitP m.g=(partN 8,2)):=unfit_el (by omega) HZ8.out HP8.out hlt hz.out (by rw[HEL.out,if_pos (.inl v3)]) (by omega)
              go_wp2_with fail
              go_ret2
              exact⟨by rw[hE.out];rfl,HBR.out _ hbw.out⟩
             by_cases v4:4294967295<z.at_
             ·have v5:decide ((4294967295:Int)<(z.at_:Int))=true:=decide_eq_true (by omega)
              have v6:decide (4294967295<z.at_)=true:=decide_eq_true v4
              have hE:Hid (unfitP m.g=(partN 8,2)):=unfit_el (by omega) HZ8.out HP8.out hlt hz.out (by rw[HEL.out,if_pos (.inr v4)]) (by omega)
              clear v4
              go_wp2_with fail
              go_ret2
              exact⟨by rw[hE.out];rfl,HBR.out _ hbw.out⟩
             have v5:decide ((4294967295:Int)<(z.at_:Int))=false:=decide_eq_false (by omega)
             have v6:decide (4294967295<z.at_)=false:=decide_eq_false v4
             rw[if_neg (by omega)]at HEL
             clear v4
             have HEL2:=HEL
             clear HEL
             go_wp2_with fail
             go_loopw [18] (fun i w2=>∃t:Nat,i=.int .i64 t∧t≤z.fs.l.length∧Hid (∀f∈z.fs.l.take t,inB f all=true)∧Hid (Below wr.heap.size wr w2)) (fun i _=>z.fs.l.length-(intOf i).toNat)
             case atStart=>exact⟨0,rfl,by omega,(fun y hy=>by simp at hy),Below.refl _ _⟩
             clear c0 c1 c2 c4 c5 c6 c8 c9 c3 c7 q0 q1
             case round =>
             obtain⟨t,rfl,htk,hno,hb2⟩:=hrel
             have hbV:Hid (Below W.heap.size W wr):=hbw.out.trans (hb2.out.mono hbw.out.size)
             obtain⟨⟨c0,c1,c2,c4,c5,c6,c8,c9,c3,c7⟩,hinV,_⟩:=HCL.out _ hbV.out
             obtain⟨ad,ha,_,k0,kj⟩:=hinV.els.at_ (fun _=>rfl) HZK.out
             have q1:wr.cell? ⟨(ad.add (k*2)).block,(ad.add (k*2)).off+1,none⟩=some (.slice z.fs.at_ z.fs.l.length z.fs.cap):=kj 1 (by omega) (by omega) _ rfl
             rw[ha]at c8
             have hk3:(k:Int)<(m.els.l.length:Int):=by omega
             clear k0 kj ha
             by_cases hlt2:t<z.fs.l.length
             ·obtain⟨y,hy⟩:∃y,z.fs.l[t]?=some y:=⟨_,List.getElem?_eq_getElem hlt2⟩
              obtain⟨af,haf,_,k0,_⟩:=(hfr.out.below hb2.out).at_ (fun _=>rfl) hy
              have u0:wr.cell? (af.add (t*1))=some (.int .i64 y):=k0 _ rfl (by omega)
              rw[Nat.mul_one]at u0
              rw[haf]at q1
              have htake:z.fs.l.take (t+1)=z.fs.l.take t++[y]:=by rw[List.take_add_one,hy];rfl
              have HTK:=hide htake;have HYY:=hide hy;have HLT:=hide hlt2
              have HI:=hide (fun V=>lin_any y all V)
              obtain⟨d,hd⟩:∃d,inB y all=d:=⟨_,rfl⟩
              rw[hd]at HI
              have HD:=hide hd
              have ht4:(t:Int)<(z.fs.l.length:Int):=by omega
              clear hd k0 haf hy htake hinV hlt2
              cases d with
              | false =>
               have hE:Hid (unfitP m.g=(partN 8,2)):=unfit_el (by omega) HZ8.out HP8.out hlt hz.out (by
                have h9:z.fs.l.all (fun f=>inB f all)=false:=by rw[List.all_eq_false];exact⟨y,List.mem_of_getElem? HYY.out,by rw[HD.out];simp⟩
                rw[HEL2.out,h9];rfl) (by omega)
               go_wp2_with fail
               refine(HI.out _).mono ?_;rintro e w1 ⟨rfl,rfl⟩
               go_wp2_with fail
               go_ret2
               exact⟨by rw[hE.out];rfl,HBR.out _ hbV.out⟩
              | true =>
               have hno2:Hid (∀f∈z.fs.l.take (t+1),inB f all=true):=by
                show ∀_,_
                rw[HTK.out]
                intro y2 hy2
                rcases List.mem_append.1 hy2 with hy2|hy2
                ·exact hno.out y2 hy2
                ·simp only[List.mem_singleton]at hy2;subst hy2;exact HD.out
               go_wp2_with fail
               refine(HI.out _).mono ?_;rintro e w1 ⟨rfl,rfl⟩
               go_wp2_with fail
               go_roundw
               case rel=>exact⟨t+1,by go_num,by omega,hno2,hb2⟩
               case measure=>simp[intOf]<;>omega
             ·have htn:t=z.fs.l.length:=by omega
              have hall9:z.fs.l.all (fun f=>inB f all)=true:=by rw[List.all_eq_true];intro f hf;exact hno.out f (by rw[htn,List.take_length];exact hf)
              have ht5:(z.fs.l.length:Int)≤(t:Int):=by omega
              have hnx:Hid (∀i,i<k+1→elE m.g i=0):=zero_next hz.out (by rw[HEL2.out,hall9];rfl)
              clear hall9 htn hno hlt2 hinV htk hb2
              go_wp2_with fail
              go_roundw
              case rel=>exact⟨k+1,by go_num,by omega,hnx,hbV⟩
              case measure=>simp[intOf]<;>omega
           ·have hkn:k=m.els.l.length:=by omega
            have HZ9:Hid (∀i,i<8+1→partE m.g i=0):=zero_next HZ8.out (by rw[HP8.out];exact firstI_zero (fun i hi=>hz.out i (by omega)))
            have hlt3:(m.els.l.length:Int)≤(k:Int):=by omega
            clear hlt hkn hk hz HP8 HIN
            go_wp2_with fail
            go_meet
            exact⟨HZ9,hbw⟩
         case rest =>
         obtain⟨HZ9,HB9⟩:=hcut
         clear HP8 c0 c1 c2 c4 c5 c6 c8 c9 c3 c7
         obtain⟨⟨c0,c1,c2,c4,c5,c6,c8,c9,c3,c7⟩,_,_⟩:=HCL.out _ HB9.out
         by_cases hm9:20<m.das.l.length
         ·have hE:Hid (unfitP m.g=(partN 9,15)):=by
           have h1:partE m.g 9=15:=many_gt (by simpa [MoL.g]using hm9)
           show _=_
           rw[unfit_at (by omega) HZ9.out (by rw[h1];omega),h1]
          have hd:(20:Int)<(m.das.l.length:Int):=by omega
          clear hm9
          go_wp2_with fail
          go_ret2
          exact⟨by rw[hE.out];rfl,HBR.out _ HB9.out⟩
         ·have hd9:¬((20:Int)<(m.das.l.length:Int)):=by omega
          have HP9:Hid (partE m.g 9=firstI (daE m.g) m.das.l.length):=by show manyI _ _ _=_;rw[many_le (by simpa [MoL.g]using hm9)];simp[MoL.g]
          clear hm9
          go_upto_block 18 with fail
          go_cut [] (fun wx=>Hid (∀i,i<9+1→partE m.g i=0)∧Hid (Below W.heap.size W wx))
          case first =>
           as_aux_lemma =>
            go_wp2_with fail
            go_loopw [19] (fun i w1=>∃k:Nat,i=.int .i64 k∧k≤m.das.l.length∧Hid (∀i,i<k→daE m.g i=0)∧Hid (Below W.heap.size W w1)) (fun i _=>m.das.l.length-(intOf i).toNat)
            case atStart=>exact⟨0,rfl,by omega,fun i hi=>by omega,HB9⟩
            case round =>
            obtain⟨k,rfl,hk,hz,hbw⟩:=hrel
            clear c0 c1 c2 c4 c5 c6 c8 c9 c3 c7
            obtain⟨⟨c0,c1,c2,c4,c5,c6,c8,c9,c3,c7⟩,hin,_⟩:=HCL.out _ hbw.out
            have HIN:=hide hin
            clear hin
            by_cases hlt:k<m.das.l.length
            ·obtain⟨z,hzk⟩:∃z,m.das.l[k]?=some z:=⟨_,List.getElem?_eq_getElem hlt⟩
             have hzm:=List.mem_of_getElem? hzk
             obtain⟨ad,ha,_,k0,kj⟩:=HIN.out.das.at_ (fun _=>rfl) hzk
             have q0:wr.cell? (ad.add (k*3))=some (.int .i64 z.mem):=k0 _ rfl (by omega)
             have q1:wr.cell? ⟨(ad.add (k*3)).block,(ad.add (k*3)).off+1,none⟩=some (.int .u64 (z.at_:Int)):=kj 1 (by omega) (by omega) _ rfl
             have q2:wr.cell? ⟨(ad.add (k*3)).block,(ad.add (k*3)).off+2,none⟩=some (.slice z.bs.at_ z.bs.l.length z.bs.cap):=kj 2 (by omega) (by omega) _ rfl
             have HEL:Hid (daE m.g k=if 4096<z.bs.l.length then 15 else if inB z.mem m.mems.l.length then (if (m.mems.l.getD z.mem.toNat noLm).wide=false∧4294967295<z.at_ then 2 else 0)else 2):=by
              show daE m.g k=_
              unfold daE
              rw[show m.g.das.getD k noDa=z.g from getD_some (by simp[MoL.g,hzk])]
              all_goals rfl
             have hzl:=hs.out.da z hzm
             rw[ha]at c9
             obtain⟨W9,hW9,hb9,hx9,_⟩:=box_new wr #[.int .i64 z.mem,.int .u64 (z.at_:Int),.slice z.bs.at_ z.bs.l.length z.bs.cap] 102
             obtain⟨yg,hyg⟩:∃yg,wr.heap.size=yg:=⟨_,rfl⟩
             rw[hyg]at hx9
             have hb9w:Hid (Below W.heap.size W W9):=hbw.out.trans (hb9.mono hbw.out.size)
             have d0:=cell_blk hx9 0
             have d1:=cell_blk hx9 1
             have d2:=cell_blk hx9 2
             simp at d0 d1 d2
             have HX9:=hide hx9;have HW9:=hide hW9;have HYG:=hide hyg
             obtain⟨⟨c0z,c1z,c2z,c4z,c5z,c6z,c8z,c9z,c3z,c7z⟩,hin9,_⟩:=HCL.out _ hb9w.out
             have HIN9:=hide hin9
             clear k0 kj ha hzk hzm hx9 hW9 hyg hb9 hin9
             go_upto_region 87 with fail
             rw[HYG.out,HW9.out]
             clear c0 c1 c2 c4 c5 c6 c8 c9 c3 c7 q0 q1 q2
             by_cases v1:4096<z.bs.l.length
             ·have v2:(4096:Int)<(z.bs.l.length:Int):=by omega
              have hE:Hid (unfitP m.g=(partN 9,15)):=unfit_el (by omega) HZ9.out HP9.out hlt hz.out (by rw[HEL.out,if_pos v1]) (by omega)
              clear v1
              go_wp2_with fail
              go_ret2
              exact⟨by rw[hE.out];rfl,HBR.out _ hb9w.out⟩
             have v2:¬((4096:Int)<(z.bs.l.length:Int)):=by omega
             rw[if_neg v1]at HEL
             clear v1
             have HI:=hide (fun V=>lin_any z.mem m.mems.l.length V)
             by_cases v3:inB z.mem m.mems.l.length=true
             ·obtain⟨n1,n2⟩:=inB_iff.1 v3
              rw[v3]at HI HEL
              obtain⟨mi,hmi⟩:∃mi:Nat,z.mem=(mi:Int):=⟨z.mem.toNat,by omega⟩
              rw[hmi]at n2
              have hlm:mi<m.mems.l.length:=by omega
              obtain⟨y,hy⟩:∃y,m.mems.l[mi]?=some y:=⟨_,List.getElem?_eq_getElem hlm⟩
              obtain⟨ae,hae,_,_,kj⟩:=HIN9.out.mems.at_ (fun _=>rfl) hy
              have u2:W9.cell? ⟨(ae.add (mi*3)).block,(ae.add (mi*3)).off+2,none⟩=some (.bool y.wide):=kj 2 (by omega) (by omega) _ rfl
              rw[hae]at c4z
              have HEL2:Hid (daE m.g k=if y.wide=false∧4294967295<z.at_ then 2 else 0):=by
               have h9:=HEL.out
               rw[if_pos rfl,hmi,Int.toNat_natCast,getD_some hy]at h9
               exact h9
              rw[hmi]at HI d0
              obtain⟨yw,hyw⟩:∃yw,y.wide=yw:=⟨_,rfl⟩
              rw[hyw]at u2 HEL2
              have HMI:=hide hmi
              clear HEL v3 n1 hmi hy hae kj hyw
              cases yw with
              | true =>
               have hnx:Hid (∀i,i<k+1→daE m.g i=0):=zero_next hz.out (by rw[HEL2.out,if_neg (by simp)])
               go_wp2_with fail
               refine(HI.out _).mono ?_;rintro e w1 ⟨rfl,rfl⟩
               go_wp2_with fail
               go_roundw
               case rel=>exact⟨k+1,by go_num,by omega,hnx,hb9w⟩
               case measure=>simp[intOf]<;>omega
              | false =>
               by_cases v4:4294967295<z.at_
               ·have v5:decide ((4294967295:Int)<(z.at_:Int))=true:=decide_eq_true (by omega)
                have v6:decide (4294967295<z.at_)=true:=decide_eq_true v4
                have hE:Hid (unfitP m.g=(partN 9,2)):=unfit_el (by omega) HZ9.out HP9.out hlt hz.out (by rw[HEL2.out,if_pos ⟨rfl,v4⟩]) (by omega)
                clear v4
                go_wp2_with fail
                refine(HI.out _).mono ?_;rintro e w1 ⟨rfl,rfl⟩
                go_wp2_with fail
                go_ret2
                exact⟨by rw[hE.out];rfl,HBR.out _ hb9w.out⟩
               ·have v5:decide ((4294967295:Int)<(z.at_:Int))=false:=decide_eq_false (by omega)
                have v6:decide (4294967295<z.at_)=false:=decide_eq_false v4
                have hnx:Hid (∀i,i<k+1→daE m.g i=0):=zero_next hz.out (by rw[HEL2.out,if_neg (by omega)])
                clear v4
                go_wp2_with fail
                refine(HI.out _).mono ?_;rintro e w1 ⟨rfl,rfl⟩
                go_wp2_with fail
                go_roundw
                case rel=>exact⟨k+1,by go_num,by omega,hnx,hb9w⟩
                case measure=>simp[intOf]<;>omega
             ·have v4:inB z.mem m.mems.l.length=false:=by simpa using v3
              rw[v4]at HI HEL
              clear v3 v4
              have hE:Hid (unfitP m.g=(partN 9,2)):=unfit_el (by omega) HZ9.out HP9.out hlt hz.out (by rw[HEL.out];rfl) (by omega)
              go_wp2_with fail
              refine(HI.out _).mono ?_;rintro e w1 ⟨rfl,rfl⟩
              go_wp2_with fail
              go_ret2
              exact⟨by rw[hE.out];rfl,HBR.out _ hb9w.out⟩
            ·have hkn:k=m.das.l.length:=by omega
             have HZ10:Hid (∀i,i<9+1→partE m.g i=0):=zero_next HZ9.out (by rw[HP9.out];exact firstI_zero (fun i hi=>hz.out i (by omega)))
             have hlt3:(m.das.l.length:Int)≤(k:Int):=by omega
             clear hlt hkn hk hz HP9 HIN
             go_wp2_with fail
             go_meet
             exact⟨HZ10,hbw⟩
          case rest =>
          obtain⟨HZ10,HB10⟩:=hcut
          clear HP9 c0 c1 c2 c4 c5 c6 c8 c9 c3 c7
          obtain⟨⟨c0,c1,c2,c4,c5,c6,c8,c9,c3,c7⟩,_,_⟩:=HCL.out _ HB10.out
          have hE:Hid (unfitP m.g=([],0)):=unfit_none HZ10.out
          go_wp2_with fail
          go_ret2
          exact⟨by rw[hE.out];rfl,HBR.out _ HB10.out⟩
end Go.Proofs.YtmekgpdfiimofaaGreatDoor
