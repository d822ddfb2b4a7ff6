import Derived.Test.YtpcanheghenhdaaGreatNBI
import Derived.Test.YtpcanheghenhdaaGreatNBQ
import Derived.Test.YtpcanheghenhdaaGreatNBT
import Derived.Test.YtpcanheghenhdaaGreatNAO
import Derived.Deep.CutBlock
import Derived.Deep.DeepCutAuto
set_option linter.unusedVariables false
namespace Go.Proofs.YtpcanheghenhdaaGreat
open Go.RowKit
theorem runs_front:∀(l:List UInt8) (acc:List (Nat×UInt8)) (r:Nat×UInt8),l.foldl runStep (acc++[r])=acc++l.foldl runStep [r]
 | [],acc,r=>rfl
 | t::l,acc,r=>by
  obtain⟨n,u⟩:=r
  have h1:runStep (acc++[(n,u)]) t=if u=t then acc++[(n+1,u)]else (acc++[(n,u)])++[(1,t)]:=by
   unfold runStep;simp
  have h2:runStep [(n,u)] t=if u=t then [(n+1,u)]else [(n,u)]++[(1,t)]:=by
   unfold runStep;simp
  rw[List.foldl_cons,List.foldl_cons,h1,h2]
  by_cases e:u=t
  ·rw[if_pos e,if_pos e];exact runs_front l acc _
  ·rw[if_neg e,if_neg e,runs_front l (acc++[(n,u)]) (1,t),runs_front l [(n,u)] (1,t),List.append_assoc]
theorem runs_many (t:UInt8) (rest:List UInt8):∀(m n:Nat),(List.replicate m t++rest).foldl runStep [(n,t)]=rest.foldl runStep [(n+m,t)]
 | 0,n=>rfl
 | m+1,n=>by
  rw[List.replicate_succ,List.cons_append,List.foldl_cons,show runStep [(n,t)] t=[(n+1,t)]from by simp[runStep],runs_many t rest m (n+1),show n+1+m=n+(m+1)from by omega]
theorem bruns_cons (t:UInt8) (rest:List UInt8) (n:Nat) (hn:0<n) (hr:rest.head?≠some t):brunsL (List.replicate n t++rest)=(n,t)::brunsL rest:=by
 obtain⟨m,rfl⟩:∃m,n=m+1:=⟨n-1,by omega⟩
 unfold brunsL
 rw[List.replicate_succ,List.cons_append,List.foldl_cons,show runStep [] t=[(1,t)]from rfl,runs_many t rest m 1,show 1+m=m+1 from by omega]
 cases rest with
 | nil=>rfl
 | cons x r =>
  have hne:¬t=x:=fun e=>hr (by rw[e];rfl)
  rw[List.foldl_cons,List.foldl_cons,show runStep [(m+1,t)] x=[(m+1,t)]++[(1,x)]from by simp[runStep,hne],runs_front]
  rfl
theorem bruns_run {l:List UInt8} {i k:Nat} {t:UInt8} (hik:i<k) (hk:k≤l.length) (hall:∀p,i≤p→p<k→l[p]?=some t) (hnext:l[k]?≠some t):brunsL (l.drop i)=(k-i,t)::brunsL (l.drop k):=by
 have h1:l.drop i=List.replicate (k-i) t++l.drop k:=by
  apply List.ext_getElem?
  intro p
  rw[List.getElem?_drop]
  by_cases hp:p<k-i
  ·rw[List.getElem?_append_left (by simpa using hp),List.getElem?_replicate,if_pos hp]
   exact hall (i+p) (by omega) (by omega)
  ·rw[List.getElem?_append_right (by simpa using hp),List.length_replicate,List.getElem?_drop]
   congr 1;omega
 rw[h1]
 refine bruns_cons t _ _ (by omega) ?_
 rw[List.head?_drop]
 exact hnext
theorem refSp_nest (b:MBd):(refSp (codesB b)).2=nestE b:=by
 rw[refSp_go];rfl
theorem run_subN (a b:Nat) (h:b≤a) (ha:a≤1000) (W:World):(binOp .sub 3 (.int .i64 (a:Int)) (.int .i64 (b:Int))).run Tryz.prog W=.ok (.int .i64 ((a-b:Nat):Int)) W:=by
 have h0:(a:Int)-(b:Int)=((a-b:Nat):Int):=by omega
 have h1:IntKind.i64.wrap ((a-b:Nat):Int)=((a-b:Nat):Int):=IntWalk.i64_in _ (by omega)
 go_simp
set_option maxRecDepth 100000 in
set_option maxHeartbeats 20000000 in
theorem refbody_any (y:BdL) (w:World) (h:Hid (BdIn w y)) (hz:Hid (BdSz y)) :
  Calls Tryz.prog 14 #[.agg #[.slice y.loc.at_ y.loc.l.length y.loc.cap,.slice y.l.at_ y.l.l.length y.l.cap]] w fun e w'=>∃v,e=.returned (.tuple #[v,.int .i64 (errB y.g:Int)])∧Hid (Below w.heap.size w w'):=by
 obtain⟨W,hW,hb,hxb,hsz⟩:=box_new w #[.slice y.loc.at_ y.loc.l.length y.loc.cap,.slice y.l.at_ y.l.l.length y.l.cap] 37
 obtain⟨g,hg⟩:∃g,w.heap.size=g:=⟨_,rfl⟩
 rw[hg]at hxb hsz
 have z1:=hz.out.loc
 have z2:=hz.out.l
 have hlab:=hide hz.out.lab
 have HCL:Hid (∀V,Below W.heap.size W V→(V.cell? ⟨g,0,none⟩=some (.slice y.loc.at_ y.loc.l.length y.loc.cap)∧V.cell? ⟨g,1,none⟩=some (.slice y.l.at_ y.l.l.length y.l.cap))∧BdIn V y∧Below w.heap.size w V):=fun V hV=>by
  have hk:=(hV.block g (by omega)).trans hxb
  have hwV:Below w.heap.size w V:=hb.trans (hV.mono hb.size)
  exact⟨⟨cell_blk hk 0,cell_blk hk 1⟩,h.out.below hwV,hwV⟩
 have HB0:Hid (Below W.heap.size W W):=Below.refl _ _
 have HW:=hide hW;have HG:=hide hg
 obtain⟨⟨c0,c1⟩,_,_⟩:=HCL.out W (Below.refl _ _)
 clear hW hb hxb hsz hg
 go_enter Tryz.func14,Tryz.ntmps14
 go_upto_region 1 with fail
 rw[HG.out,HW.out]
 go_upto_block 0 with fail
 go_cut [] (fun wx=>Hid (∀x∈y.l.l,rightX x.x=true)∧Hid (Below W.heap.size W wx))
 case first =>
  as_aux_lemma =>
   go_wp2_with fail
   go_loopw [4] (fun i w1=>∃k:Nat,i=.int .i64 k∧k≤y.l.l.length∧Hid (∀x∈y.l.l.take k,rightX x.x=true)∧Hid (Below W.heap.size W w1)) (fun i _=>y.l.l.length-(intOf i).toNat)
   case atStart=>exact⟨0,rfl,by omega,(fun x hx=>by simp at hx),HB0⟩
   case round =>
   obtain⟨k,rfl,hk,hno,hbw⟩:=hrel
   clear c0 c1
   obtain⟨⟨c0,c1⟩,hin,_⟩:=HCL.out _ hbw.out
   by_cases hlt:k<y.l.l.length
   ·obtain⟨x,hx⟩:∃x,y.l.l[k]?=some x:=⟨_,List.getElem?_eq_getElem hlt⟩
    have hmem:=List.mem_of_getElem? hx
    obtain⟨ad,ha,_,k0,kj⟩:=hin.l.at_ (fun _=>rfl) hx
    have q0:wr.cell? (ad.add (k*5))=some (.int .i64 x.code):=k0 _ rfl (by omega)
    have q1:wr.cell? ⟨(ad.add (k*5)).block,(ad.add (k*5)).off+1,none⟩=some (.int .u64 (x.a:Int)):=kj 1 (by omega) (by omega) _ rfl
    have q2:wr.cell? ⟨(ad.add (k*5)).block,(ad.add (k*5)).off+2,none⟩=some (.int .u64 (x.b:Int)):=kj 2 (by omega) (by omega) _ rfl
    have q3:wr.cell? ⟨(ad.add (k*5)).block,(ad.add (k*5)).off+3,none⟩=some (.int .i64 x.al):=kj 3 (by omega) (by omega) _ rfl
    have q4:wr.cell? ⟨(ad.add (k*5)).block,(ad.add (k*5)).off+4,none⟩=some (.slice x.l.at_ x.l.l.length x.l.cap):=kj 4 (by omega) (by omega) _ rfl
    have hlx:=hlab.out x hmem
    have HR:=hide (rright_any x.x x.l.at_ x.l.cap wr (hide (hin.num x hmem)) (hide (hin.lab x hmem).nums) (show x.l.l.length≤1000000 by omega))
    simp only[show x.x.code=x.code from rfl,show x.x.a=x.a from rfl,show x.x.b=x.b from rfl,show x.x.al=x.al from rfl,show x.x.l=x.l.l from rfl]at HR
    have htake:y.l.l.take (k+1)=y.l.l.take k++[x]:=by rw[List.take_add_one,hx];rfl
    have HTK:=hide htake;have HM:=hide hmem
    obtain⟨d,hd⟩:∃d,rightX x.x=d:=⟨_,rfl⟩
    rw[hd]at HR
    have HD:=hide hd
    rw[ha]at c1
    clear hd htake hmem hx k0 kj hin hlx ha
    cases d with
    | false =>
     have hE:Hid (errB y.g=1):=by
      show _=_
      unfold errB
      rw[if_neg]
      unfold rightB
      simp only[Bool.and_eq_true,BdL.g,List.all_map,List.all_eq_true]
      intro hq
      have:=hq.1 x HM.out
      simp only[Function.comp_apply]at this
      rw[HD.out]at this
      cases this
     go_wp2_with fail
     refine HR.out.mono ?_;rintro e w2 ⟨rfl,hb2⟩
     have hfin:=hide ((HCL.out _ hbw.out).2.2.trans (hb2.out.mono (HCL.out _ hbw.out).2.2.size))
     go_wp2_with fail
     go_ret2
     exact⟨_,by rw[hE.out];rfl,hfin⟩
    | true =>
     have hno2:Hid (∀x∈y.l.l.take (k+1),rightX x.x=true):=by
      show ∀_,_
      rw[HTK.out]
      intro y2 hy2
      rcases List.mem_append.1 hy2 with hy2|hy2
      ·exact hno.out y2 hy2
      ·simp only[List.mem_singleton]at hy2;subst hy2;exact HD.out
     go_wp2_with fail
     refine HR.out.mono ?_;rintro e w2 ⟨rfl,hb2⟩
     have hfin:=hide (hbw.out.trans (hb2.out.mono hbw.out.size))
     go_wp2_with fail
     go_roundw
     case rel=>exact⟨k+1,by go_num,by omega,hno2,hfin⟩
     case measure=>simp[intOf]<;>omega
   ·have hkn:k=y.l.l.length:=by omega
    have hall:Hid (∀x∈y.l.l,rightX x.x=true):=by
     show ∀_,_
     intro x hx
     exact hno.out x (by rw[hkn,List.take_length];exact hx)
    have hlt3:(y.l.l.length:Int)≤(k:Int):=by omega
    clear hno hkn hlt hk hin
    go_wp2_with fail
    go_meet
    exact⟨hall,hbw⟩
 case rest =>
 obtain⟨HALL,HB1⟩:=hcut
 clear c0 c1
 obtain⟨⟨c0,c1⟩,_,_⟩:=HCL.out _ HB1.out
 go_upto_block 2 with fail
 go_cut [] (fun wx=>Hid (∀t∈y.loc.l,goodT8 t=true)∧Hid (Below W.heap.size W wx))
 case first =>
  as_aux_lemma =>
   go_wp2_with fail
   go_loopw [5] (fun i w1=>∃k:Nat,i=.int .i64 k∧k≤y.loc.l.length∧Hid (∀t∈y.loc.l.take k,goodT8 t=true)∧Hid (Below W.heap.size W w1)) (fun i _=>y.loc.l.length-(intOf i).toNat)
   case atStart=>exact⟨0,rfl,by omega,(fun x hx=>by simp at hx),HB1⟩
   case round =>
   obtain⟨k,rfl,hk,hno,hbw⟩:=hrel
   clear c0 c1
   obtain⟨⟨c0,c1⟩,hin,hbe⟩:=HCL.out _ hbw.out
   have HBE:=hide hbe
   clear hbe
   by_cases hlt:k<y.loc.l.length
   ·obtain⟨x,hx⟩:∃x,y.loc.l[k]?=some x:=⟨_,List.getElem?_eq_getElem hlt⟩
    have hmem:=List.mem_of_getElem? hx
    obtain⟨ad,ha,_,k0,_⟩:=hin.loc.at_ (fun _=>rfl) hx
    have q0:wr.cell? (ad.add (k*1))=some (.int .u8 (x.toNat:Int)):=k0 _ rfl (by omega)
    rw[Nat.mul_one]at q0
    have htake:y.loc.l.take (k+1)=y.loc.l.take k++[x]:=by rw[List.take_add_one,hx];rfl
    have HTK:=hide htake;have HM:=hide hmem
    rw[ha]at c0
    have e126:(x==126)=decide (x.toNat=126):=by rw[Bool.eq_iff_iff];simp[←UInt8.toNat_inj]
    have e127:(x==127)=decide (x.toNat=127):=by rw[Bool.eq_iff_iff];simp[←UInt8.toNat_inj]
    have HD:Hid (goodT8 x=(decide (x.toNat=126)||decide (x.toNat=127))):=by show _=_;unfold goodT8;rw[e126,e127]
    have hnext:Hid (goodT8 x=true→∀t∈y.loc.l.take (k+1),goodT8 t=true):=by
     show _→_
     intro hg
     rw[HTK.out]
     intro y2 hy2
     rcases List.mem_append.1 hy2 with hy2|hy2
     ·exact hno.out y2 hy2
     ·simp only[List.mem_singleton]at hy2;subst hy2;exact hg
    have hbad:Hid (goodT8 x=false→errB y.g=1):=by
     show _→_
     intro hg
     unfold errB
     rw[if_neg]
     unfold rightB
     simp only[Bool.and_eq_true,BdL.g,List.all_eq_true]
     intro hq
     have:=hq.2.1 x HM.out
     rw[hg]at this
     cases this
    generalize x.toNat=xn at *
    clear htake hmem hx k0 hin ha e126 e127 HTK HM
    by_cases e6:xn=126
    ·have f6:((xn:Int) != 126)=false:=by simp;omega
     have hno2:=hide (hnext.out (by rw[HD.out,decide_eq_true e6];rfl))
     clear hnext hbad e6
     go_wp2_with fail
     go_roundw
     case rel=>exact⟨k+1,by go_num,by omega,hno2,hbw⟩
     case measure=>simp[intOf]<;>omega
    ·have f6:((xn:Int) != 126)=true:=by simp;omega
     by_cases e7:xn=127
     ·have f7:((xn:Int) != 127)=false:=by simp;omega
      have hno2:=hide (hnext.out (by rw[HD.out,decide_eq_true e7];simp))
      clear hnext hbad e6 e7
      go_wp2_with fail
      go_roundw
      case rel=>exact⟨k+1,by go_num,by omega,hno2,hbw⟩
      case measure=>simp[intOf]<;>omega
     ·have f7:((xn:Int) != 127)=true:=by simp;omega
      have hE:=hide (hbad.out (by rw[HD.out,decide_eq_false e6,decide_eq_false e7];rfl))
      clear hnext hbad e6 e7
      go_wp2_with fail
      go_ret2
      exact⟨_,by rw[hE.out];rfl,HBE⟩
   ·have hkn:k=y.loc.l.length:=by omega
    have hall:Hid (∀t∈y.loc.l,goodT8 t=true):=by
     show ∀_,_
     intro x hx
     exact hno.out x (by rw[hkn,List.take_length];exact hx)
    have hlt3:(y.loc.l.length:Int)≤(k:Int):=by omega
    clear hno hkn hlt hk hin
    go_wp2_with fail
    go_meet
    exact⟨hall,hbw⟩
 case rest =>
 obtain⟨HGO,HB2⟩:=hcut
 clear c0 c1
 obtain⟨⟨c0,c1⟩,hin2,hbe2⟩:=HCL.out _ HB2.out
 have HIN2:=hide hin2;have HBE2:=hide hbe2
 clear hin2 hbe2
 by_cases h50:50<y.loc.l.length
 ·have hE:Hid (errB y.g=1):=by
   show _=_
   unfold errB
   rw[if_neg]
   unfold rightB
   simp only[Bool.and_eq_true,BdL.g]
   intro hq
   have:=of_decide_eq_true hq.2.2
   omega
  have h51:(50:Int)<(y.loc.l.length:Int):=by omega
  clear h50
  go_wp2_with fail
  go_ret2
  exact⟨_,by rw[hE.out];rfl,HBE2⟩
 have h51:¬((50:Int)<(y.loc.l.length:Int)):=by omega
 have hl50:y.loc.l.length≤50:=by omega
 have HE:Hid (errB y.g=if nestE y.g≠0 then nestE y.g else if 4096<(encB y.g).length then 15 else 0):=by
  show _=_
  unfold errB
  rw[if_pos]
  unfold rightB
  simp only[Bool.and_eq_true,BdL.g,List.all_map,List.all_eq_true]
  exact⟨fun x hx=>HALL.out x hx,fun x hx=>HGO.out x hx,decide_eq_true hl50⟩
 have HS:=hide (refSpans_any y.l.at_ y.l.l.length y.l.cap (y.l.l.map XL.t) (codesB y.g) (by omega) _ (hide (XL.il HIN2.out)))
 unfold SpPost at HS
 rw[refSp_nest]at HS
 clear h50
 go_wp2_with fail
 refine HS.out.mono ?_;rintro e w3 ⟨As,ms,cs3,rfl,hb3⟩
 have HB3:=hide (HB2.out.trans (hb3.out.mono HB2.out.size))
 clear c0 c1 HS hb3
 obtain⟨⟨c0,c1⟩,hin3,hbe3⟩:=HCL.out _ HB3.out
 have HIN3:=hide hin3;have HBE3:=hide hbe3
 clear hin3 hbe3
 by_cases hne:nestE y.g=0
 ·have HE2:Hid (errB y.g=if 4096<(encB y.g).length then 15 else 0):=by
   show _=_
   rw[HE.out,if_neg (by omega)]
  generalize nestE y.g=ne at *
  have hb4:((ne:Int) != 0)=false:=by simp;omega
  clear hne HE
  obtain⟨base,hbase⟩:∃b,w3.heap.size=b:=⟨_,rfl⟩
  have HBA:=hide hbase
  clear hbase
  obtain⟨n,hn⟩:∃n,y.loc.l.length=n:=⟨_,rfl⟩
  have HN:=hide hn
  have HCB:Hid (∀V,Below base w3 V→(V.cell? ⟨g,0,none⟩=some (.slice y.loc.at_ n y.loc.cap)∧V.cell? ⟨g,1,none⟩=some (.slice y.l.at_ y.l.l.length y.l.cap))∧BdIn V y∧Below w.heap.size w V):=fun V hV=>by
   rw[←HN.out]
   exact HCL.out V (HB3.out.trans ((show Below w3.heap.size w3 V by rw[HBA.out];exact hV).mono HB3.out.size))
  have hgb:g<base:=by
   rw[←HBA.out]
   exact Nat.lt_of_lt_of_le (World.block_lt_of_cell? W _ (HCL.out W HB0.out).1.1) HB3.out.size
  rw[hn]at c0 hl50 h51
  clear hn
  have HO0:Hid (OB w3 base w3 (.slice none 0 0) []):=⟨own_nil _ _ _ _,Below.refl _ _,by rw[HBA.out];exact Nat.le_refl _⟩
  go_upto_block 4 with fail
  go_cut [9,10] (fun v rc wx=>rc=.int .i64 ((brunsL y.loc.l).length:Int)∧Hid (OB w3 base wx v ((brunsL y.loc.l).flatMap runB)))
  case first =>
   go_wp2_with fail
   go_loopw [9,10,11,12] (fun v rc i kk w1=>∃(k:Nat) (pre:List (Nat×UInt8)),i=.int .i64 k∧k≤n∧rc=.int .i64 (pre.length:Int)∧pre.length≤k∧Hid (brunsL y.loc.l=pre++brunsL (y.loc.l.drop k))∧Hid (OB w3 base w1 v (pre.flatMap runB))) (fun _ _ i _ _=>n-(intOf i).toNat)
   case atStart=>exact⟨0,[],rfl,by omega,rfl,by simp,rfl,HO0⟩
   case round =>
   obtain⟨k,pre,rfl,hk,rfl,hpk,hpre,HO⟩:=hrel
   clear c0 c1
   obtain⟨⟨c0,c1⟩,hin,_⟩:=HCB.out _ HO.out.bel
   have HIN:=hide hin
   clear hin
   by_cases hlt:k<n
   ·obtain⟨t,ht⟩:∃t,y.loc.l[k]?=some t:=⟨_,List.getElem?_eq_getElem (by rw[HN.out];exact hlt)⟩
    have HT:=hide ht
    clear ht
    have hlti:(k:Int)<(n:Int):=by omega
    go_upto_block 6 with fail
    go_cut [12] (fun kk wx=>∃j:Nat,kk=.int .i64 j∧k<j∧j≤n∧Hid (∀p,k≤p→p<j→y.loc.l[p]?=some t)∧Hid (y.loc.l[j]?≠some t)∧Hid (OB w3 base wx u9 (pre.flatMap runB)))
    case first =>
     go_wp2_with fail
     go_loopw [12] (fun i w2=>∃j:Nat,i=.int .i64 j∧k≤j∧j≤n∧Hid (∀p,k≤p→p<j→y.loc.l[p]?=some t)∧Hid (OB w3 base w2 u9 (pre.flatMap runB))) (fun i _=>n-(intOf i).toNat)
     case atStart=>exact⟨k,rfl,Nat.le_refl _,hk,(fun p h1 h2=>by omega),HO⟩
     case round =>
     obtain⟨j,rfl,hkj,hjn,hno,HO2⟩:=hrel
     clear c0 c1
     obtain⟨⟨c0,c1⟩,hin,_⟩:=HCB.out _ HO2.out.bel
     obtain⟨ad,ha,_,k0,_⟩:=hin.loc.at_ (fun _=>rfl) HT.out
     have q0:wr.cell? (ad.add (k*1))=some (.int .u8 (t.toNat:Int)):=k0 _ rfl (by omega)
     rw[Nat.mul_one]at q0
     clear k0
     by_cases hlt2:j<n
     ·obtain⟨u,hu⟩:∃u,y.loc.l[j]?=some u:=⟨_,List.getElem?_eq_getElem (by rw[HN.out];exact hlt2)⟩
      obtain⟨ad2,ha2,_,k0,_⟩:=hin.loc.at_ (fun _=>rfl) hu
      obtain rfl:ad=ad2:=Option.some.inj (ha.symm.trans ha2)
      have q1:wr.cell? (ad.add (j*1))=some (.int .u8 (u.toNat:Int)):=k0 _ rfl (by omega)
      rw[Nat.mul_one]at q1
      rw[ha]at c0
      have HU:=hide hu
      have hlt4:(j:Int)<(n:Int):=by omega
      clear k0 ha ha2 hin hu
      by_cases he:u=t
      ·have hno2:Hid (∀p,k≤p→p<j+1→y.loc.l[p]?=some t):=by
        show ∀_,_
        intro p h1 h2
        rcases Nat.lt_or_ge p j with h3|h3
        ·exact hno.out p h1 h3
        ·obtain rfl:p=j:=by omega
         rw[HU.out,he]
       have hq:((u.toNat:Int)==(t.toNat:Int))=true:=by rw[he];simp
       clear he
       generalize u.toNat=un at *
       generalize t.toNat=tn at *
       go_wp2_with fail
       go_quiet (fail)
       rename_i nq
       have HO3:Hid (OB w3 base (wr.drewN nq) u9 (pre.flatMap runB)):=HO2.out.step (below_dr (Below.refl _ _) nq)
       go_wp2_with fail
       go_roundw
       case rel=>exact⟨j+1,by go_num,by omega,by omega,hno2,HO3⟩
       case measure=>simp[intOf]<;>omega
      ·have hne2:Hid (y.loc.l[j]?≠some t):=by
        show _≠_
        rw[HU.out]
        intro h9
        exact he (Option.some.inj h9)
       have hkj2:k<j:=by
        rcases Nat.eq_or_lt_of_le hkj with h9|h9
        ·subst h9
         exact absurd HT.out hne2.out
        ·exact h9
       have hq:((u.toNat:Int)==(t.toNat:Int))=false:=by
        have:¬u.toNat=t.toNat:=fun h9=>he (UInt8.toNat_inj.1 h9)
        simp;omega
       clear he
       generalize u.toNat=un at *
       generalize t.toNat=tn at *
       go_wp2_with fail
       go_quiet (fail)
       rename_i nq
       have HO3:Hid (OB w3 base (wr.drewN nq) u9 (pre.flatMap runB)):=HO2.out.step (below_dr (Below.refl _ _) nq)
       go_wp2_with fail
       go_meet
       exact⟨j,rfl,hkj2,hjn,hno,hne2,HO3⟩
     ·have hjn2:j=n:=by omega
      have hne2:Hid (y.loc.l[j]?≠some t):=by
       show _≠_
       rw[List.getElem?_eq_none (by rw[HN.out];omega)]
       simp
      have hlt4:(n:Int)≤(j:Int):=by omega
      clear hjn2 hin ha
      go_wp2_with fail
      go_quiet (fail)
      rename_i nq
      have HO3:Hid (OB w3 base (wr.drewN nq) u9 (pre.flatMap runB)):=HO2.out.step (below_dr (Below.refl _ _) nq)
      go_wp2_with fail
      go_meet
      exact⟨j,rfl,by omega,hjn,hno,hne2,HO3⟩
    case rest =>
    obtain⟨j,rfl,hkj,hjn,hno,hne2,HO2⟩:=hcut
    have HRUN:=hide (bruns_run hkj (by rw[HN.out];exact hjn) hno.out hne2.out)
    obtain⟨r,hr⟩:∃r,j-k=r:=⟨_,rfl⟩
    have hnext:Hid (brunsL y.loc.l=(pre++[(r,t)])++brunsL (y.loc.l.drop j)):=by show _=_;rw[hpre.out,HRUN.out,hr];simp
    have HR:=hide hr
    have hr50:r≤50:=by omega
    obtain⟨ys,hys⟩:∃ys,pre.flatMap runB=ys:=⟨_,rfl⟩
    have hfm:Hid ((pre++[(r,t)]).flatMap runB=(ys++putN r)++[t]):=by show _=_;rw[←hys];simp[runB]
    have hyl:ys.length≤600:=by have:=runs_le pre;rw[hys]at this;omega
    rw[hys]at HO2
    have hpl:=putN_length r
    have hroom1:Room ys.length (putN r).length 1:=room_of (by omega) (by omega)
    have hroom2:Room (ys++putN r).length 1 1:=room_of (by rw[List.length_append];omega) (by omega)
    obtain⟨ad,ha,_,k0,_⟩:=(HCB.out w3 (Below.refl _ _)).2.1.loc.at_ (fun _=>rfl) HT.out
    have q03:w3.cell? (ad.add (k*1))=some (.int .u8 (t.toNat:Int)):=k0 _ rfl (by omega)
    rw[Nat.mul_one]at q03
    have hqb:=World.block_lt_of_cell? w3 _ q03
    rw[HBA.out]at hqb
    have hq0:=(HO2.out.bel.cell hqb).trans q03
    have hown:∀q,u9.ownBlock=some q→base≤q:=fun q hq=>own_ge HO2.out.own q hq
    have HQ:Hid ((ad.add k).block∉u9.ownBlock.toList):=fun hm=>by have:=hown _ (by simpa using hm);omega
    have HLG:Hid (g<wc.heap.size∧g∉u9.ownBlock.toList):=⟨by have:=HO2.out.size;omega,fun hm=>by have:=hown _ (by simpa using hm);omega⟩
    clear c0 c1
    obtain⟨⟨c0,c1⟩,_,_⟩:=HCB.out _ HO2.out.bel
    rw[ha]at c0
    have HC0:=hide c0;have HQ0:=hide hq0
    have hkn2:(k:Int)<(n:Int):=by omega
    clear k0 ha q03 hqb hq0 hown c0 c1 hr hys hno hne2 HRUN
    go_upto_region 23 with fail
    refine wp_region_two (l:=[_,_,_,_,_,_,_,_,_,_,_,_,_]) (o1:=_) (o2:=_) grew_ext (Only.ext u9.ownBlock.toList) (fun _ _ h=>Only.of_below h) [6] 6 (factsOf [fun yy _=>yy=u9,
     fun yy _=>yy=.int .i64 (j:Int),
     fun yy _=>yy=.int .i64 (k:Int),
     fun yy _=>yy=.int .i64 (r:Int),
     fun yy _=>yy=.int .u64 (r:Int),
     fun yy WW=>∃Az cz,yy=.slice Az (putN r).length cz∧Hid (OwnB WW wc.heap.size (.slice Az (putN r).length cz) (putN r)),
     fun yy WW=>OB w3 base WW yy (ys++putN r),
     fun yy _=>yy=.pointer (some ⟨g,0,none⟩),
     fun yy _=>yy=.slice (some ad) n y.loc.cap,
     fun yy _=>yy=.int .i64 (k:Int),
     fun yy _=>yy=.pointer (some (ad.add k)),
     fun yy _=>yy=.int .u8 (t.toNat:Int),
     fun yy WW=>∃q,yy=.slice (some ⟨q,0,none⟩) 1 1∧wc.heap.size≤q∧WW.heap[q]?=some (.cells #[.int .u8 (t.toNat:Int)] 5 (0,0))]) (by kernel_rfl) (by kernel_rfl) (by kernel_rfl) (by kernel_rfl) (by kernel_rfl) (by kernel_rfl) (by kernel_rfl) (by decide) rfl (by intro z hz;rw[List.mem_singleton]at hz;subst hz;decide) (by kernel_rfl) (by intro i v w h;rcases i with _|_|_|_|_|_|_|_|_|_|_|_|_|_<;>simp at h) ?_ ?_
    ·refine⟨?_,?_,?_,?_,?_,?_,?_,?_,?_,?_,?_,?_,?_,trivial⟩
     ·refine ObD.plain (by decide) rfl fun ρ W3 hk=>?_
      exact OpOut.move (.tmp 9) rfl ⟨Below.refl _ _,hk.old 9 (by decide)⟩
     ·refine ObD.plain (by decide) rfl fun ρ W3 hk=>?_
      exact OpOut.move (.tmp 12) rfl ⟨Below.refl _ _,hk.old 12 (by decide)⟩
     ·refine ObD.plain (by decide) rfl fun ρ W3 hk=>?_
      exact OpOut.move (.tmp 11) rfl ⟨Below.refl _ _,hk.old 11 (by decide)⟩
     ·refine ObD.plain (by decide) rfl fun ρ W3 hk=>?_
      have h1:=(hk.fact 1 90 (by decide) rfl).pure
      have h2:=(hk.fact 2 91 (by decide) rfl).pure
      exact OpOut.bin (x:=.tmp 90) (y:=.tmp 91) (v:=.int .i64 (r:Int)) rfl (by rw[h1,h2];go_simp) (by rw[h1,h2,←HR.out];exact run_subN j k (by omega) (by omega) W3) ⟨Below.refl _ _,rfl⟩
     ·refine ObD.plain (by decide) rfl fun ρ W3 hk=>?_
      have h3:=(hk.fact 3 92 (by decide) rfl).pure
      exact OpOut.conv (x:=.tmp 92) rfl (by rw[h3];go_simp;exact u64_nat r (by omega)) ⟨Below.refl _ _,rfl⟩
     ·refine ObD.plain (by decide) rfl fun ρ W3 hk=>?_
      have h4:=(hk.fact 4 93 (by decide) rfl).pure
      refine OpOut.fn (args:=#[.int .u64 (r:Int)]) rfl (hk.func _) (by simp[h4]) Tryz.func41 (by kernel_rfl) rfl ?_
      refine(refPut_any r W3 (by show _<_;omega)).mono ?_;rintro e w5 ⟨Az,cz,rfl,rz,hbz,hlz,hoz⟩
      exact⟨_,rfl,hbz.out,Az,cz,rfl,own_base hoz.out (fun q hq=>by have:=own_ge hoz.out q hq;have:=hk.below.size;omega)⟩
     ·refine ObD.first rfl rfl fun ρ W3 hk hk1=>?_
      have h0:=(hk1.fact 0 89 (by decide) rfl).pure
      obtain⟨wz,hwz,Az,cz,hz,oz⟩:=hk1.fact 5 94 (by decide) rfl
      have ozW:=own_grew oz.out hwz
      have HEW:=HO2.out.step hk1.below
      obtain⟨v',w',hrun,ho2,hg2⟩:=run_append_any (P:=Tryz.prog) (w:=W3) base (ty:=34) u8_elem u9 ys.length (ys.map B) HEW.own W3.heap.size Az (putN r).length cz ((putN r).map B) (Reads.of_own ozW) (B_map_one _) hroom1 HEW.size
      exact OpOut.append rfl h0 hz hrun ⟨hg2.only,HEW.put (Below.refl _ _) (OwnB.appB ho2) hg2⟩
     ·refine ObD.plain (by decide) rfl fun ρ W3 hk=>?_
      have o1:ρ (.tmp 1)=.pointer (some ⟨g,0,none⟩):=hk.old 1 (by decide)
      exact OpOut.fieldAddr (x:=.tmp 1) rfl o1 (by go_simp) ⟨Below.refl _ _,rfl⟩
     ·refine ObD.plain (by decide) rfl fun ρ W3 hk=>?_
      have h7:=(hk.fact 7 96 (by decide) rfl).pure
      have hc:=hk.below.cell_some HC0.out HLG.out.2
      exact OpOut.load (x:=.tmp 96) rfl h7 (by go_simp) ⟨Below.refl _ _,rfl⟩
     ·refine ObD.plain (by decide) rfl fun ρ W3 hk=>?_
      exact OpOut.move (.tmp 11) rfl ⟨Below.refl _ _,hk.old 11 (by decide)⟩
     ·refine ObD.plain (by decide) rfl fun ρ W3 hk=>?_
      have h8:=(hk.fact 8 97 (by decide) rfl).pure
      have h9:=(hk.fact 9 98 (by decide) rfl).pure
      exact OpOut.indexAddrT (x:=.tmp 97) (y:=.tmp 98) rfl h8 h9 (by go_simp) ⟨Below.refl _ _,rfl⟩
     ·refine ObD.plain (by decide) rfl fun ρ W3 hk=>?_
      have h10:=(hk.fact 10 99 (by decide) rfl).pure
      have hc:=hk.below.cell_some HQ0.out HQ.out
      exact OpOut.load (x:=.tmp 99) rfl h10 (by go_simp) ⟨Below.refl _ _,rfl⟩
     ·refine ObD.plain (by decide) rfl fun ρ W3 hk=>?_
      have h11:=(hk.fact 11 100 (by decide) rfl).pure
      have hsz:=hk.below.size
      exact OpOut.buildSlice (us:=#[(0,.int .u8 (t.toNat:Int))]) rfl (by simp[h11]) (by go_simp) ⟨(Below.refl _ _).alloc (Nat.le_refl _) _,W3.heap.size,rfl,by omega,heap_alloc_new W3 _⟩
    ·intro vs W4 hb4 hf hlast
     obtain⟨wz,hwz,hRE⟩:=hlast
     have HR4:=hide (hRE.step hwz)
     obtain⟨wy,hwy,q,hz,hqx,oz⟩:=hf 12 (by decide)
     have ozW:=(hwy.block q (blk_lt oz) (fun hm=>by have h1:=own_lt HO2.out.own q (by simpa using hm);omega)).trans oz
     have rz:Hid (Reads W4 W4.heap.size 1 (some ⟨q,0,none⟩) 1 [.int .u8 (t.toNat:Int)]):=reads_blk (cs:=[.int .u8 (t.toNat:Int)]) ozW rfl
     clear hf hRE hwz hwy oz ozW hb4
     simp only[fillL]
     rw[hz]
     obtain⟨v5,hv5⟩:∃v5,vs 6=v5:=⟨_,rfl⟩
     rw[hv5]at HR4 ⊢
     generalize vs 0=y0,vs 1=y1,vs 2=y2,vs 3=y3,vs 4=y4,vs 5=y5,vs 7=y7,vs 8=y8,vs 9=y9,vs 10=y10,vs 11=y11
     clear hz hv5
     go_frame
     have hsz4:=HR4.out.size
     have HO4:=hide HR4.out.own
     refine wpList_append_any rfl (.tmp 95) (.tmp 101) rfl base u8_elem v5 (ys++putN r).length ((ys++putN r).map B) rfl HO4.out W4.heap.size (some ⟨q,0,none⟩) 1 1 [.int .u8 (t.toNat:Int)] rfl rz.out (by simp[Value.oneCell']) hroom2 hsz4 ?_
     intro v6 w6 ho6 hg6
     have HE6:Hid (OB w3 base w6 v6 ((ys++putN r)++[t])):=HR4.out.put (Below.refl _ _) (OwnB.appB (bs:=[t]) ho6) hg6
     rw[←hfm.out]at HE6
     clear ho6 hg6
     refine tail_of_list rfl ?_
     go_wp2_with fail
     go_roundw
     case rel=>exact⟨j,pre++[(r,t)],by go_num,hjn,by simp,by simp;omega,hnext,HE6⟩
     case measure=>simp[intOf]<;>omega
   ·have hkn:k=n:=by omega
    have hfull:Hid (brunsL y.loc.l=pre):=by
     show _=_
     rw[hpre.out,hkn,List.drop_eq_nil_of_le (by rw[HN.out];exact Nat.le_refl _)]
     simp[brunsL]
    have hlt3:(n:Int)≤(k:Int):=by omega
    clear hpre hkn hlt hk
    go_wp2_with fail
    go_meet
    rw[hfull.out]
    exact⟨rfl,HO⟩
  case rest =>
  obtain⟨rfl,HO⟩:=hcut
  have HEB:Hid (encB y.g=putN (brunsL y.loc.l).length++((brunsL y.loc.l).flatMap runB++y.l.l.flatMap (fun x=>encX x.x))):=by
   show _=_
   unfold encB
   simp[BdL.g,List.flatMap_map]
  have hrl:=bruns_len y.loc.l
  rw[HN.out]at hrl
  generalize hrs:brunsL y.loc.l=rs at *
  clear hrs
  obtain⟨rn,hrn⟩:∃rn,rs.length=rn:=⟨_,rfl⟩
  obtain⟨ys,hys⟩:∃ys,rs.flatMap runB=ys:=⟨_,rfl⟩
  have hyl:=runs_le rs
  rw[hys]at HO HEB hyl
  rw[hrn]at HEB hyl hrl ⊢
  have hrn50:rn≤50:=by omega
  obtain⟨A9,c9,hv9,_,_⟩:=own_form HO.out.own
  subst hv9
  have HPT:=hide (refPut_any rn wc (by show _<_;omega))
  have hpl:=putN_length rn
  have hroom1:Room (putN rn).length ys.length 1:=room_of (by omega) (by omega)
  have hwcs:=HO.out.size
  clear c0 c1 hrl hrn hys
  go_wp2_with fail
  refine HPT.out.mono ?_;rintro e w5 ⟨Az,cz,rfl,rz,hbz,hlz,hoz⟩
  have HOP:Hid (OB w3 base w5 (.slice Az (putN rn).length cz) (putN rn)):=⟨own_base hoz.out (fun q hq=>by have:=own_ge hoz.out q hq;omega),HO.out.bel.trans (hbz.out.mono hwcs),Nat.le_trans hwcs hbz.out.size⟩
  have hro:Hid (Reads w5 w5.heap.size 1 A9 ys.length (ys.map B)):=Reads.of_own (own_grew HO.out.own hbz.out)
  have HOW:=hide HOP.out.own
  have hsz7:=HOP.out.size
  clear HPT rz hlz hoz hbz HO
  go_wp2_with (at_builtin;refine wpList_append_any rfl _ _ rfl base u8_elem _ (putN rn).length ((putN rn).map B) rfl HOW.out w5.heap.size A9 ys.length c9 (ys.map B) rfl hro.out (B_map_one _) hroom1 hsz7 ?_;intro v6 w8 ho6 hg6;have HE6:Hid (OB w3 base w8 v6 (putN rn++ys)):=HOP.out.put (Below.refl _ _) (OwnB.appB ho6) hg6;clear ho6 hg6 HOW HOP hro hroom1)
  obtain⟨zs,hzs⟩:∃zs,putN rn++ys=zs:=⟨_,rfl⟩
  rw[hzs]at HE6
  have HEB2:Hid (encB y.g=zs++y.l.l.flatMap (fun x=>encX x.x)):=by show _=_;rw[HEB.out,←hzs,List.append_assoc]
  have hzl:zs.length≤1000:=by rw[←hzs,List.length_append];omega
  clear HEB hzs hyl hpl
  obtain⟨⟨c0,c1⟩,_,_⟩:=HCB.out _ HE6.out.bel
  go_loopw [9,13] (fun v i w1=>∃k:Nat,i=.int .i64 k∧k≤y.l.l.length∧Hid (OB w3 base w1 v (zs++(y.l.l.take k).flatMap (fun x=>encX x.x)))) (fun _ i _=>y.l.l.length-(intOf i).toNat)
  case atStart=>exact⟨0,rfl,by omega,by show OB _ _ _ _ _;simpa using HE6.out⟩
  case round =>
  obtain⟨k,rfl,hk,HO⟩:=hrel
  clear c0 c1
  obtain⟨⟨c0,c1⟩,hin,hbe⟩:=HCB.out _ HO.out.bel
  by_cases hlt:k<y.l.l.length
  ·obtain⟨x,hx⟩:∃x,y.l.l[k]?=some x:=⟨_,List.getElem?_eq_getElem hlt⟩
   have hmem:=List.mem_of_getElem? hx
   obtain⟨ad,ha,_,k0,kj⟩:=hin.l.at_ (fun _=>rfl) hx
   have q0:wr.cell? (ad.add (k*5))=some (.int .i64 x.code):=k0 _ rfl (by omega)
   have q1:wr.cell? ⟨(ad.add (k*5)).block,(ad.add (k*5)).off+1,none⟩=some (.int .u64 (x.a:Int)):=kj 1 (by omega) (by omega) _ rfl
   have q2:wr.cell? ⟨(ad.add (k*5)).block,(ad.add (k*5)).off+2,none⟩=some (.int .u64 (x.b:Int)):=kj 2 (by omega) (by omega) _ rfl
   have q3:wr.cell? ⟨(ad.add (k*5)).block,(ad.add (k*5)).off+3,none⟩=some (.int .i64 x.al):=kj 3 (by omega) (by omega) _ rfl
   have q4:wr.cell? ⟨(ad.add (k*5)).block,(ad.add (k*5)).off+4,none⟩=some (.slice x.l.at_ x.l.l.length x.l.cap):=kj 4 (by omega) (by omega) _ rfl
   have hlx:=hlab.out x hmem
   have HEN:=hide (refEncode_any x.x x.l.at_ x.l.cap wr (hide (hin.num x hmem)) (hide (hin.lab x hmem).nums) (show x.l.l.length≤1000000 by omega) (hide (HALL.out x hmem)))
   simp only[show x.x.code=x.code from rfl,show x.x.a=x.a from rfl,show x.x.b=x.b from rfl,show x.x.al=x.al from rfl,show x.x.l=x.l.l from rfl]at HEN
   unfold RefEncP at HEN
   have hel:=encX_le (hin.num x hmem) (HALL.out x hmem)
   have htl:((y.l.l.take k).flatMap (fun x=>encX x.x)).length≤2000*k:=take_len (f:=fun x:XL=>encX x.x) y.l.l k (fun z hz=>encX_le (hin.num z hz) (HALL.out z hz))
   obtain⟨us,hus⟩:∃us,zs++(y.l.l.take k).flatMap (fun x=>encX x.x)=us:=⟨_,rfl⟩
   have hul:us.length≤2100000:=by rw[←hus,List.length_append];omega
   have hnext:Hid (zs++(y.l.l.take (k+1)).flatMap (fun x=>encX x.x)=us++encX x.x):=by
    show _=_
    rw[take_flat hx,←List.append_assoc,hus]
   rw[hus]at HO
   obtain⟨bs,hbs⟩:∃bs,encX x.x=bs:=⟨_,rfl⟩
   rw[hbs]at hel hnext HEN
   have hroom:Room us.length bs.length 1:=room_of (by omega) (by omega)
   rw[ha]at c1
   clear k0 kj hx hus htl hin hmem hlx hbs ha hbe
   go_wp2_with fail
   refine HEN.out.mono ?_;rintro e w7 ⟨v13,rfl,hv13,hb7⟩
   obtain⟨A8,c8,hv8,_,_⟩:=own_form hv13.out
   subst hv8
   have rz:Hid (Reads w7 w7.heap.size 1 A8 bs.length (bs.map B)):=Reads.of_own hv13.out
   have HO7:=hide (HO.out.step hb7.out)
   have hsz7:=HO7.out.size
   have HOW:=hide HO7.out.own
   clear HEN hb7 q0 q1 q2 q3 q4 hv13 c0 c1
   go_wp2_with (at_builtin;refine wpList_append_any rfl _ _ rfl base u8_elem u9 us.length (us.map B) rfl HOW.out w7.heap.size A8 bs.length c8 (bs.map B) rfl rz.out (B_map_one _) hroom hsz7 ?_;intro v6 w8 ho6 hg6;have HE7:Hid (OB w3 base w8 v6 (us++bs)):=HO7.out.put (Below.refl _ _) (OwnB.appB ho6) hg6;clear ho6 hg6 HOW rz hroom)
   go_roundw
   case rel=>exact⟨k+1,by go_num,by omega,by rw[hnext.out];exact HE7⟩
   case measure=>simp[intOf]<;>omega
  ·have hkn:k=y.l.l.length:=by omega
   subst hkn
   have hfull:=HO.out
   rw[List.take_of_length_le (Nat.le_refl _),←HEB2.out]at hfull
   obtain⟨A8,c8,hv8,hc8,hc8b⟩:=own_form hfull.own
   subst hv8
   obtain⟨en,hen⟩:∃en,(encB y.g).length=en:=⟨_,rfl⟩
   rw[hen]at HE2 hc8
   rw[hen]
   have HBE:=hide hbe
   have hel:en≤9223372036854775807:=by unfold maxLen at hc8b;omega
   clear hlt hfull HO hc8 hc8b hen hin hbe
   by_cases h4:4096<en
   ·have hE:Hid (errB y.g=15):=by show _=_;rw[HE2.out,if_pos h4]
    have hd:decide ((4096:Int)<(en:Int))=true:=decide_eq_true (by omega)
    clear h4
    go_wp2_with fail
    go_ret2
    exact⟨_,by rw[hE.out];rfl,HBE⟩
   ·have hE:Hid (errB y.g=0):=by show _=_;rw[HE2.out,if_neg h4]
    have hd:decide ((4096:Int)<(en:Int))=false:=decide_eq_false (by omega)
    clear h4
    go_wp2_with fail
    go_ret2
    exact⟨_,by rw[hE.out];rfl,HBE⟩
 ·rw[if_pos hne]at HE
  generalize nestE y.g=ne at *
  have hb4:((ne:Int) != 0)=true:=by simp;omega
  clear hne
  go_wp2_with fail
  go_ret2
  exact⟨_,by rw[HE.out];rfl,HBE3⟩
end Go.Proofs.YtpcanheghenhdaaGreat
