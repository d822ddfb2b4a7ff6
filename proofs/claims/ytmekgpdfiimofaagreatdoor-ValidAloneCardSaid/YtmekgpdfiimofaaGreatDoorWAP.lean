import Derived.Test.YtmekgpdfiimofaaGreatDoorWAM
import Derived.Test.YtmekgpdfiimofaaGreatDoorWAK
import Derived.Test.YtmekgpdfiimofaaGreatDoorWAO
import Derived.Test.YtmekgpdfiimofaaGreatDoorWAI
import Derived.Test.YtmekgpdfiimofaaGreatDoorWAG
import Derived.Test.YtmekgpdfiimofaaGreatDoorWAL
set_option linter.unusedVariables false
namespace Go.Proofs.YtmekgpdfiimofaaGreatDoor
open Go.RowKit
def rightB (b:MBd):Bool:=b.l.all rightX&&(b.loc.all goodT8&&decide (b.loc.length≤50))
def runStep (acc:List (Nat×UInt8)) (t:UInt8):List (Nat×UInt8) :=
 match acc.getLast? with
 | some (n,u)=>if u=t then acc.dropLast++[(n+1,u)]else acc++[(1,t)]
 | none=>[(1,t)]
def brunsL (l:List UInt8):List (Nat×UInt8):=l.foldl runStep []
def runD (r:Nat×UInt8):List Value:=[.int .i64 (r.1:Int),.int .u8 (r.2.toNat:Int)]
structure BdSz (y:BdL):Prop where
 loc:y.loc.l.length≤1000
 l:y.l.l.length≤1000
 lab:∀x∈y.l.l,x.l.l.length≤1000
theorem right1_any (x:XL) (w:World) (hx:Hid x.x.In) (hr:Hid (Row w 1 uD x.l)) (hl:x.l.l.length≤1000) :
  Calls Tryz.prog 96 #[.agg #[.int .i64 x.code,.int .u64 (x.a:Int),.int .u64 (x.b:Int),.int .i64 x.al,.slice x.l.at_ x.l.l.length x.l.cap]] w fun e w'=>e=.returned (.bool (!rightX x.x))∧Hid (Below w.heap.size w w'):=by
 obtain⟨W,hW,hb,hxb,hsz⟩:=box_new w #[.int .i64 x.code,.int .u64 (x.a:Int),.int .u64 (x.b:Int),.int .i64 x.al,.slice x.l.at_ x.l.l.length x.l.cap] 133
 have e0:=cell_blk hxb 0
 have e1:=cell_blk hxb 1
 have e2:=cell_blk hxb 2
 have e3:=cell_blk hxb 3
 have e4:=cell_blk hxb 4
 simp at e0 e1 e2 e3 e4
 have HC:=hide (insRight_any x.x x.l.at_ x.l.cap W hx (hide (hr.out.below hb).nums) (show x.l.l.length≤1000000 by omega))
 simp only[XL.x]at HC
 rw[show (⟨x.code,x.a,x.b,x.al,x.l.l⟩:XI)=x.x from rfl]at HC
 generalize rightX x.x=q at *
 have HB:=hide hb;have HW:=hide hW
 clear hb hW hxb hsz
 go_enter Tryz.func96,Tryz.ntmps96
 go_upto_region 1 with fail
 rw[HW.out]
 go_wp2_with fail
 refine HC.out.mono ?_;rintro e w2 ⟨rfl,h2⟩
 go_wp2_with fail
 go_ret
 exact⟨rfl,HB.out.trans (h2.out.mono HB.out.size)⟩
theorem right2_any (t:UInt8) (w:World):Calls Tryz.prog 98 #[.int .u8 (t.toNat:Int)] w fun e w'=>e=.returned (.bool (!goodT8 t))∧Hid (Below w.heap.size w w'):=by
 have HC:=hide (tbits_any t w)
 have h6:(t==126)=decide (t.toNat=126):=by rw[Bool.eq_iff_iff];simp[←UInt8.toNat_inj]
 have h7:(t==127)=decide (t.toNat=127):=by rw[Bool.eq_iff_iff];simp[←UInt8.toNat_inj]
 unfold goodT8
 rw[h6,h7]
 unfold bitsV at HC
 by_cases e7:t.toNat=127
 ·rw[if_pos e7]at HC
  have hq:Hid ((!(decide (t.toNat=126)||decide (t.toNat=127)))=false):=by show _=_;simp[e7]
  rw[hq.out]
  clear e7 h6 h7
  go_enter Tryz.func98,Tryz.ntmps98
  go_wp2_with fail
  refine HC.out.mono ?_;rintro e w2 ⟨rfl,rfl⟩
  go_wp2_with fail
  go_ret
  exact⟨rfl,Below.refl _ _⟩
 ·by_cases e6:t.toNat=126
  ·rw[if_neg e7,if_pos e6]at HC
   have hq:Hid ((!(decide (t.toNat=126)||decide (t.toNat=127)))=false):=by show _=_;simp[e6]
   rw[hq.out]
   clear e7 e6 h6 h7
   go_enter Tryz.func98,Tryz.ntmps98
   go_wp2_with fail
   refine HC.out.mono ?_;rintro e w2 ⟨rfl,rfl⟩
   go_wp2_with fail
   go_ret
   exact⟨rfl,Below.refl _ _⟩
  ·rw[if_neg e7,if_neg e6]at HC
   have hq:Hid ((!(decide (t.toNat=126)||decide (t.toNat=127)))=true):=by show _=_;simp[e6,e7]
   rw[hq.out]
   clear e7 e6 h6 h7
   go_enter Tryz.func98,Tryz.ntmps98
   go_wp2_with fail
   refine HC.out.mono ?_;rintro e w2 ⟨rfl,rfl⟩
   go_wp2_with fail
   go_ret
   exact⟨rfl,Below.refl _ _⟩
set_option maxRecDepth 100000 in
set_option maxHeartbeats 1600000 in
theorem bright_any (y:BdL) (w:World) (h:Hid (BdIn w y)) (hz:Hid (BdSz y)) :
  Calls Tryz.prog 80 #[.agg #[.slice y.loc.at_ y.loc.l.length y.loc.cap,.slice y.l.at_ y.l.l.length y.l.cap]] w fun e w'=>e=.returned (.bool (rightB y.g))∧Hid (Below w.heap.size w w'):=by
 obtain⟨W,hW,hb,hxb,hsz⟩:=box_new w #[.slice y.loc.at_ y.loc.l.length y.loc.cap,.slice y.l.at_ y.l.l.length y.l.cap] 77
 have hB:=hide (h.out.below hb)
 have e0:=cell_blk hxb 0
 have e1:=cell_blk hxb 1
 simp at e0 e1
 have z1:=hz.out.loc;have z2:=hz.out.l
 have H1:=hide (has_ins y.l y.l.l.length 96 #[] (fun x=>!rightX x.x) W (hide hB.out.l) rfl (by omega)
  (fun x W=>callF Tryz.func96 (by kernel_rfl) (by kernel_rfl) _ W)
  (hide (fun k x hk V hV=>right1_any x V (hide (hB.out.num x (List.mem_of_getElem? hk))) (hide ((hB.out.lab x (List.mem_of_getElem? hk)).below hV)) (hz.out.lab x (List.mem_of_getElem? hk)))))
 have H2:=hide (fun (V:World) (hV:Below W.heap.size W V)=>has_tys y.loc y.loc.l.length 98 #[] (fun t=>!goodT8 t) V (hide (hB.out.loc.below hV)) rfl (by omega)
  (fun x W=>callF Tryz.func98 (by kernel_rfl) (by kernel_rfl) _ W)
  (hide (fun k t hk U hU=>right2_any t U)))
 have hq:Hid (rightB y.g=(!(y.l.l.any (fun x=>!rightX x.x))&&(!(y.loc.l.any (fun t=>!goodT8 t))&&decide (y.loc.l.length≤50)))):=by
  show _=_
  unfold rightB
  simp only[BdL.g,List.all_map]
  rw[List.not_any_eq_all_not,List.not_any_eq_all_not]
  simp[Function.comp_def]
  rfl
 have HB:=hide hb;have HW:=hide hW;have HX:=hide hxb
 clear hb hW hxb hsz
 generalize y.l.l.any (fun x=>!rightX x.x)=a1 at *
 generalize y.loc.l.any (fun t=>!goodT8 t)=a2 at *
 generalize y.loc.l.length=n at *
 go_enter Tryz.func80,Tryz.ntmps80
 go_upto_region 1 with fail
 rw[HW.out]
 go_wp2_with fail
 refine H1.out.mono ?_;rintro e w2 ⟨rfl,h2⟩
 have e2:=cell_blk ((h2.out.block w.heap.size (blk_lt HX.out)).trans HX.out) 0
 simp at e2
 go_wp2_with fail
 refine(H2.out w2 h2.out).mono ?_;rintro e w3 ⟨rfl,h3⟩
 have e3:=cell_blk (((h3.out.mono h2.out.size).block w.heap.size (blk_lt HX.out)).trans ((h2.out.block w.heap.size (blk_lt HX.out)).trans HX.out)) 0
 simp at e3
 have HB3:=hide ((HB.out.trans (h2.out.mono HB.out.size)).trans (h3.out.mono (Nat.le_trans HB.out.size h2.out.size)))
 clear e0 e1 e2 H1 H2 h2 h3
 by_cases h50:n≤50
 ·have hd:decide ((n:Int)≤50)=true:=decide_eq_true (by omega)
  rw[decide_eq_true h50]at hq
  clear h50
  cases a1<;>cases a2 <;>
  ·go_wp2_with fail
   go_ret
   exact⟨by rw[hq.out];rfl,HB3.out⟩
 ·have hd:decide ((n:Int)≤50)=false:=decide_eq_false (by omega)
  rw[decide_eq_false h50]at hq
  clear h50
  cases a1<;>cases a2 <;>
  ·go_wp2_with fail
   go_ret
   exact⟨by rw[hq.out];rfl,HB3.out⟩
theorem bruns_take {l:List UInt8} {k:Nat} {t:UInt8} (h:l[k]?=some t):brunsL (l.take (k+1))=runStep (brunsL (l.take k)) t:=by
 unfold brunsL
 rw[List.take_add_one,h,List.foldl_append]
 rfl
theorem bruns_len:∀(l:List UInt8),(brunsL l).length≤l.length∧∀r∈brunsL l,r.1≤l.length:=by
 have key:∀(l:List UInt8) (acc:List (Nat×UInt8)) (n:Nat),acc.length≤n→(∀r∈acc,r.1≤n)→(l.foldl runStep acc).length≤n+l.length∧∀r∈l.foldl runStep acc,r.1≤n+l.length:=by
  intro l
  induction l with
  | nil=>intro acc n h1 h2;exact⟨by simpa using h1,fun r hr=>by have:=h2 r hr;simp;omega⟩
  | cons t l ih =>
   intro acc n h1 h2
   rw[List.foldl_cons,List.length_cons,show n+(l.length+1)=(n+1)+l.length from by omega]
   apply ih
   ·unfold runStep
    split
    ·split
     ·simp;omega
     ·simp;omega
    ·simp
   ·intro r hr
    unfold runStep at hr
    split at hr
    ·rename_i m u hlast
     split at hr
     ·rcases List.mem_append.1 hr with hr|hr
      ·have:=h2 r ((List.dropLast_subset _) hr);omega
      ·simp at hr;subst hr
       have:=h2 (m,u) (List.mem_of_getLast? hlast)
       simp at this ⊢;omega
     ·rcases List.mem_append.1 hr with hr|hr
      ·have:=h2 r hr;omega
      ·simp at hr;subst hr;simp
    ·simp at hr;subst hr;simp
 intro l
 have:=key l [] 0 (by simp) (by simp)
 simpa [brunsL]using this
theorem brun_elem:IsElem Tryz.prog 161 165 2 16:=IsElem.mk' Tryz.underlying161 (z:=.agg #[.int .i64 0,.int .u8 0]) (by kernel_rfl) rfl (by omega)
theorem own_cell {w:World} {base:Nat} {e:TypeId} {size n g:Nat} {v:Value} {α:Type} {dec:α→List Value} {ys:List α} (hd:∀a,(dec a).length=size) (h:w.ownsRow base e size v n (ys.flatMap dec)) (hg:v.ownBlock=some g) {i:Nat} {x:α} (hx:ys[i]?=some x) :
  ∀j,j<size→∀u,(dec x)[j]?=some u→w.cell? ⟨g,i*size+j,none⟩=some u:=by
 intro j hj u hu
 have:=h.cells (g:=g) hg (i*size+j) u (by rw[flatMap_get (dec:=dec) (size:=size) hd ys i j _ hx hj];exact hu)
 rwa [show Addr.add ⟨g,0,none⟩ (i*size+j)=⟨g,i*size+j,none⟩from by unfold Addr.add;split<;>simp_all]at this
theorem own_free {w:World} {base:Nat} {e:TypeId} {size n g:Nat} {v:Value} {xs:List Value} (h:w.ownsRow base e size v n xs) (hg:v.ownBlock=some g) (k:Nat):w.frozen? ⟨g,k,none⟩=false:=by
 rcases h.2 with ⟨rfl,_⟩|⟨g',cap,cur,rfl,hbg,hh,_⟩
 ·cases hg
 ·have:g'=g:=by injection hg
  subst this
  exact frozen_blk hh k
def RunsP (w:World) (ls:List UInt8) (e:Ending) (w':World):Prop:=∃v',e=.returned v'∧Hid (w'.ownsRow w.heap.size 165 2 v' (brunsL ls).length ((brunsL ls).flatMap runD))∧Hid (Below w.heap.size w w')
set_option maxRecDepth 100000 in
set_option maxHeartbeats 3200000 in
theorem runs_any (A:Option Addr) (c:Nat) (ls:List UInt8) (w:World) (hr:Hid (Reads w w.heap.size 1 A ls.length (ls.map B))) (hl:ls.length≤1000) :
  Calls Tryz.prog 82 #[.slice A ls.length c] w (RunsP w ls):=by
 obtain⟨base,hbase⟩:∃b,w.heap.size=b:=⟨_,rfl⟩
 have HBA:=hide hbase
 rw[hbase]at hr
 clear hbase
 go_enter Tryz.func82,Tryz.ntmps82
 go_wp2_with fail
 go_loopw [3,5,6,9] (fun v t0 n0 i w1=>∃k:Nat,i=.int .i64 (k:Int)∧k≤ls.length∧Hid (w1.ownsRow base 165 2 v (brunsL (ls.take k)).length ((brunsL (ls.take k)).flatMap runD))∧Hid (Below base w w1)∧base≤w1.heap.size) (fun _ _ _ i _=>ls.length-(intOf i).toNat)
 case atStart=>exact⟨0,rfl,by omega,own_nil _ _ _ _,Below.refl _ _,by rw[HBA.out];omega⟩
 case round =>
  obtain⟨k,rfl,hk,ho,hb,hbs⟩:=hrel
  by_cases hlt:k<ls.length
  ·have hrk:Reads wr base 1 A ls.length (ls.map B):=hr.out.below hb.out
   obtain⟨ad,t,rfl,ht,hcell,_,_⟩:=hrk.byte (k:=k) hlt
   have hst:=bruns_take ht.out
   have hln:=bruns_len (ls.take k)
   rw[List.length_take]at hln
   have hln1:(brunsL (ls.take k)).length≤1000:=by have:=hln.1;omega
   obtain⟨A2,c2,hv,hc2,hc3⟩:=own_form ho.out
   cases hlast:(brunsL (ls.take k)).getLast? with
   | none =>
    have hnil:brunsL (ls.take k)=[]:=List.getLast?_eq_none_iff.1 hlast
    rw[hnil]at ho hst hv
    have hst2:Hid (brunsL (ls.take (k+1))=[(1,t)]):=hst
    have HO:=ho
    rw[hv]at HO
    subst hv
    have hroom:Room 0 1 16:=room_of (by omega) (by omega)
    clear hrk hst hln hlast hnil ho hc2 hln1
    go_wp2_with (at_builtin;refine wpList_push_n rfl _ _ rfl base brun_elem (.slice A2 0 c2) 0 [] rfl wr [.int .i64 1,.int .u8 (t.toNat:Int)] 165 rfl HO.out rfl rfl (by simp[Value.oneCell']) hroom hbs ?_;intro v' w3 ho3 hg3;have ho3':=hide ho3;have hg3':=hide hg3;clear ho3 hg3)
    go_roundw
    case rel =>
     refine⟨k+1,by go_num,by omega,?_,hb.out.grown hg3'.out.by_ hbs (own_ge HO.out),Nat.le_trans hbs hg3'.out.by_.size⟩
     show World.ownsRow _ _ _ _ _ _ _
     rw[hst2.out]
     exact own_cast ho3'.out (by simp) (by simp[runD])
    case measure=>simp[intOf]<;>omega
   | some r =>
    obtain⟨m,u⟩:=r
    obtain⟨acc,hacc⟩:∃acc,brunsL (ls.take k)=acc:=⟨_,rfl⟩
    rw[hacc]at ho hst hv hlast hln hln1 hc2
    have hne:acc≠[]:=by intro e;rw[e]at hlast;simp at hlast
    obtain⟨q,hq⟩:∃q,acc.length=q+1:=⟨acc.length-1,by have:=List.length_pos_iff.2 hne;omega⟩
    have hat:acc[q]?=some (m,u):=by rw[List.getLast?_eq_getElem?,hq]at hlast;simpa using hlast
    have hm:m≤1000:=by have:=hln.2 (m,u) (List.mem_of_getElem? hat);simp at this;omega
    have HO:=ho
    rw[hv]at HO
    obtain⟨g,hg⟩:∃g,A2=some ⟨g,0,none⟩:=by
     rcases HO.out.2 with ⟨h1,_⟩|⟨g,cap,cur,h1,_⟩
     ·injection h1 with _ h1;omega
     ·injection h1 with h1;exact⟨g,h1⟩
    subst hg
    have hc:=own_cell (g:=g) (dec:=runD) (fun _=>rfl) HO.out rfl hat
    have k0:=hc 0 (by omega) _ rfl
    have k1:=hc 1 (by omega) _ rfl
    have z0:=own_free (g:=g) HO.out rfl (q*2)
    have hbg:base≤g:=own_ge HO.out g rfl
    rw[Nat.add_zero]at k0
    obtain⟨n1,hn1⟩:∃n1,acc.length=n1:=⟨_,rfl⟩
    have hq1:n1=q+1:=by omega
    have e1:(n1:Int)-1=(q:Int):=by omega
    have e2:(0:Int)<(n1:Int):=by omega
    have e3:(q:Int)<(n1:Int):=by omega
    have e4:n1≤1000:=by omega
    have e5:q≤1000:=by omega
    rw[hn1]at HO hv
    subst hv
    by_cases hut:u=t
    ·have hst2:Hid (brunsL (ls.take (k+1))=acc.dropLast++[(m+1,u)]):=by show _=_;rw[hst];unfold runStep;rw[hlast];simp only[if_pos hut]
     have ht1:(u.toNat:Int)=(t.toNat:Int):=by rw[hut]
     rw[ht1]at k1
     have hset:Hid ((acc.flatMap runD).set (q*2+0) (.int .i64 ((m:Int)+1))=(acc.dropLast++[(m+1,u)]).flatMap runD):=by
      show _=_
      rw[flatMap_set (dec:=runD) (fun _=>rfl) acc q 0 _ (m+1,u) _ hat (by omega) (by simp[runD])]
      congr 1
      rw[List.dropLast_eq_take,hq,Nat.add_sub_cancel]
      apply List.ext_getElem?
      intro j
      rcases Nat.lt_trichotomy j q with hj|hj|hj
      ·rw[List.getElem?_set_ne (by omega),List.getElem?_append_left (by rw[List.length_take];omega),List.getElem?_take,if_pos hj]
      ·subst hj
       rw[List.getElem?_set_self (by omega),List.getElem?_append_right (by rw[List.length_take];omega),List.length_take,Nat.min_eq_left (by omega),Nat.sub_self]
       rfl
      ·rw[List.getElem?_eq_none (by rw[List.length_set];omega),List.getElem?_eq_none (by rw[List.length_append,List.length_take];simp;omega)]
     have HSO:=hide (own_setCell (g:=g) HO.out rfl (q*2+0) (by omega) (.int .i64 ((m:Int)+1)))
     rw[hset.out,Nat.add_zero]at HSO
     have hlen2:Hid ((acc.dropLast++[(m+1,u)]).length=n1):=by show _=_;simp;omega
     have hbw:Hid (Below base wr (wr.setCell ⟨g,q*2,none⟩ (.int .i64 ((m:Int)+1)))):=(Below.refl _ _).setCell (p:=⟨g,q*2,none⟩) hbg _
     have hszw:(wr.setCell ⟨g,q*2,none⟩ (.int .i64 ((m:Int)+1))).heap.size=wr.heap.size:=by simp[World.setCell]
     have HSZ:=hide hszw
     clear hrk hst hln hlast ho hc2 hln1 hc hacc hat hne hut ht1 hset hszw hq hn1 hq1
     go_wp2_with fail
     go_roundw
     case rel =>
      refine⟨k+1,by go_num,by omega,?_,hb.out.trans hbw.out,by rw[HSZ.out];exact hbs⟩
      show World.ownsRow _ _ _ _ _ _ _
      rw[hst2.out,hlen2.out]
      exact HSO.out
     case measure=>simp[intOf]<;>omega
    ·have hst2:Hid (brunsL (ls.take (k+1))=acc++[(1,t)]):=by show _=_;rw[hst];unfold runStep;rw[hlast];simp only[if_neg hut]
     have hne2:((u.toNat:Int)==(t.toNat:Int))=false:=by
      rw[beq_eq_false_iff_ne]
      intro e
      exact hut (UInt8.toNat_inj.1 (by omega))
     have hroom:Room n1 1 16:=room_of (by omega) (by omega)
     have HQ:=hide hn1
     clear hrk hst hln hlast ho hc2 hln1 hc hacc hat hne hut hq hn1 hq1
     go_wp2_with (at_builtin;refine wpList_push_n rfl _ _ rfl base brun_elem (.slice (some ⟨g,0,none⟩) n1 c2) n1 (acc.flatMap runD) rfl wr [.int .i64 1,.int .u8 (t.toNat:Int)] 165 rfl HO.out rfl rfl (by simp[Value.oneCell']) hroom hbs ?_;intro v' w3 ho3 hg3;have ho3':=hide ho3;have hg3':=hide hg3;clear ho3 hg3)
     go_roundw
     case rel =>
      refine⟨k+1,by go_num,by omega,?_,hb.out.grown hg3'.out.by_ hbs (own_ge HO.out),Nat.le_trans hbs hg3'.out.by_.size⟩
      show World.ownsRow _ _ _ _ _ _ _
      rw[hst2.out]
      exact own_cast ho3'.out (by rw[List.length_append,HQ.out];rfl) (by simp[runD])
     case measure=>simp[intOf]<;>omega
  ·have hkn:k=ls.length:=by omega
   subst hkn
   have hfull:=ho.out
   rw[List.take_length]at hfull
   have HF:=hide hfull
   clear hlt hfull ho
   go_wp2_with fail
   go_ret
   exact⟨_,rfl,by rw[HBA.out];exact HF.out,by rw[HBA.out];exact hb.out⟩
def flt (n:Nat):Ending:=.panicked [{ v:=.iface 167 (.agg #[.int .i64 (n:Int)]),recovered:=false }]
theorem must_yes (n:Int) (w:World):Calls Tryz.prog 138 #[.bool true,.int .i64 n] w fun e w'=>e=.returned (.tuple #[])∧w=w':=by
 go_enter Tryz.func138,Tryz.ntmps138
 go_wp2_with fail
 go_end0
 exact⟨rfl,rfl⟩
theorem must_no (n:Nat) (m:Int) (hm:m=(n:Int)) (w:World):Calls Tryz.prog 138 #[.bool false,.int .i64 m] w fun e w'=>e=flt n∧w=w':=by
 subst hm
 go_enter Tryz.func138,Tryz.ntmps138
 go_wp2_with fail
 exact⟨rfl,rfl,rfl⟩
structure CB where
 lp:Bool
 is_:Bool
 res:Sl UInt8
 h:Nat
 dead:Bool
def CB.p (b:CB):PB:=⟨b.lp,b.is_,b.res.l,b.h,b.dead⟩
def CB.cs (b:CB):List Value:=[.bool b.lp,.bool b.is_,b.res.val,.int .i64 (b.h:Int),.bool b.dead]
structure KX where
 cb:Nat
 bs:Nat
 c0:Value
 c1:Value
 c2:Value
 c3:Value
 far:Option Nat
structure ResIn (w:World) (K:KX) (vs vb:Value) (r:Sl UInt8):Prop where
 row:Row w 1 bD r
 apart:0<r.l.length→∀ad,r.at_=some ad→ad.block<w.heap.size∧ad.block≠K.cb∧vs.ownBlock≠some ad.block∧vb.ownBlock≠some ad.block
 far:0<r.l.length→∀ad,r.at_=some ad→K.far≠some ad.block
structure CK (w:World) (K:KX) (vs vb:Value) (cs:List CB) (st:List UInt8):Prop where
 blk:w.heap[K.cb]?=some (.cells #[K.c0,K.c1,K.c2,K.c3,vs,vb] 151 (0,0))
 bc:K.bs≤K.cb
 os:w.ownsRow K.bs 92 1 vs st.length (st.map B)
 ob:w.ownsRow K.bs 148 5 vb cs.length (cs.flatMap CB.cs)
 as_:vs.ownBlock≠some K.cb
 ab:vb.ownBlock≠some K.cb
 av:∀g,vs.ownBlock=some g→vb.ownBlock≠some g
 rr:∀b∈cs,ResIn w K vs vb b.res
 fz:∀q,K.far=some q→q<w.heap.size
section
variable {w w':World} {K:KX} {vs vb vs' vb':Value} {cs:List CB} {st:List UInt8}
theorem NW.fresh (h:NW w w' K.cb vs vb vs' vb') {g:Nat} (hg:g<w.heap.size) (h1:g≠K.cb) (h2:vs.ownBlock≠some g) (h3:vb.ownBlock≠some g):w'.heap[g]?=w.heap[g]?∧vs'.ownBlock≠some g∧vb'.ownBlock≠some g:=by
 refine⟨h.only.block g hg fun hm=>?_,h.ls.apart h2 hg,h.lo.apart h3 hg⟩
 simp only[List.mem_cons,List.mem_append,Option.mem_toList]at hm
 rcases hm with hm|hm|hm
 ·exact h1 hm
 ·exact h2 hm
 ·exact h3 hm
theorem ResIn.step {r:Sl UInt8} (h:ResIn w K vs vb r) (hn:NW w w' K.cb vs vb vs' vb'):ResIn w' K vs' vb' r:=by
 have hs:=hn.only.size
 refine⟨⟨⟨h.row.r.1,fun h0=>?_⟩,h.row.c,h.row.m⟩,fun h0 ad ha=>?_,h.far⟩
 ·obtain⟨ad,ha,hb,hc⟩:=h.row.r.2 h0
  obtain⟨k0,k1,k2,k3⟩:=h.apart h0 ad ha
  obtain⟨j1,_,_⟩:=hn.fresh k0 k1 k2 k3
  refine⟨ad,ha,by omega,fun j u hu=>?_⟩
  have hc2:w'.cell? (ad.add j)=w.cell? (ad.add j):=World.cell?_of_block (by rw[block_of_add];exact j1)
  rw[hc2]
  exact hc j u hu
 ·obtain⟨k0,k1,k2,k3⟩:=h.apart h0 ad ha
  obtain⟨_,j2,j3⟩:=hn.fresh k0 k1 k2 k3
  exact⟨by omega,k1,j2,j3⟩
theorem CK.size (h:CK w K vs vb cs st):K.bs<w.heap.size∧K.cb<w.heap.size:=by
 have:=blk_lt h.blk;have:=h.bc;exact⟨by omega,by omega⟩
theorem NW.belowB (h:NW w w' K.cb vs vb vs' vb') (hc:CK w K vs vb cs st):Below K.bs w w':=by
 refine h.only.below (Nat.le_of_lt hc.size.1) fun x hx=>?_
 simp only[List.mem_cons,List.mem_append,Option.mem_toList]at hx
 rcases hx with hx|hx|hx
 ·have:=hc.bc;omega
 ·have:=own_ge hc.os x hx;omega
 ·have:=own_ge hc.ob x hx;omega
def Bad (w w':World) (K:KX) (vs vb:Value):Prop:=∃vs' vb',NW w w' K.cb vs vb vs' vb'
theorem Bad.of (h:NW w w' K.cb vs vb vs' vb'):Bad w w' K vs vb:=⟨_,_,h⟩
theorem NW.bad {w1 w2:World} {vs1 vb1:Value} (h:NW w w1 K.cb vs vb vs1 vb1) (hb:Bad w1 w2 K vs1 vb1):Bad w w2 K vs vb:=by
 obtain⟨_,_,k⟩:=hb
 exact⟨_,_,h.trans k⟩
theorem CK.quiet (h:CK w K vs vb cs st) (hb:Below w.heap.size w w'):CK w' K vs vb cs st :=
 ⟨(hb.block K.cb h.size.2).trans h.blk,h.bc,own_only3 (S:=[]) h.os (Only.of_below hb) (by simp),own_only3 (S:=[]) h.ob (Only.of_below hb) (by simp),h.as_,h.ab,h.av,fun b hm=>(h.rr b hm).step (NW.quiet (Only.of_below hb)),fun q hq=>Nat.lt_of_lt_of_le (h.fz q hq) hb.size⟩
theorem NW.of_below (hb:Below w.heap.size w w'):NW w w' K.cb vs vb vs vb:=NW.quiet (Only.of_below hb)
theorem CK.c4 (h:CK w K vs vb cs st):w.cell? ⟨K.cb,4,none⟩=some vs:=cell_blk h.blk 4
theorem CK.c5 (h:CK w K vs vb cs st):w.cell? ⟨K.cb,5,none⟩=some vb:=cell_blk h.blk 5
theorem CK.free (h:CK w K vs vb cs st) (i:Nat):w.frozen? ⟨K.cb,i,none⟩=false:=frozen_blk h.blk i
theorem CK.set_st (h:CK w K vs vb cs st) {w2:World} {st2:List UInt8} (hg:Grows w w2 vs vs') (ho:w2.ownsRow K.bs 92 1 vs' st2.length (st2.map B)) :
  CK (w2.setCell ⟨K.cb,4,none⟩ vs') K vs' vb cs st2∧NW w (w2.setCell ⟨K.cb,4,none⟩ vs') K.cb vs vb vs' vb:=by
 have hcb:=h.size.2
 have hblk:w2.heap[K.cb]?=some (.cells #[K.c0,K.c1,K.c2,K.c3,vs,vb] 151 (0,0)):=(hg.only.block K.cb hcb (fun hm=>h.as_ (by simpa using hm))).trans h.blk
 have hl:Lies w vs vs':=hg.lies
 have hob:=own_only3 h.ob hg.only (fun g hg' hm=>h.av g (by simpa using hm) hg')
 have hnw:NW w (w2.setCell ⟨K.cb,4,none⟩ vs') K.cb vs vb vs' vb :=
  ⟨(hg.only.more (by simp;intro x hx;exact .inr (.inl hx))).trans (Only.setCell w2 (p:=⟨K.cb,4,none⟩) (by simp) _),hl,Lies.refl _ _⟩
 have ha:vs'.ownBlock≠some K.cb:=hl.apart h.as_ hcb
 refine⟨⟨?_,h.bc,?_,?_,ha,h.ab,fun g hg' he=>hl.apart (g:=g) (fun e=>h.av g e he) (own_lt h.ob g he) hg',fun b hm=>(h.rr b hm).step hnw,fun q hq=>Nat.lt_of_lt_of_le (h.fz q hq) hnw.only.size⟩,hnw⟩
 ·rw[setCell_blk hblk];rfl
 ·exact own_only3 ho (Only.setCell (S:=[K.cb]) w2 (p:=⟨K.cb,4,none⟩) (by simp) _) (fun g hg' hm=>ha (by rw[hg'];simp at hm;rw[hm]))
 ·exact own_only3 hob (Only.setCell (S:=[K.cb]) w2 (p:=⟨K.cb,4,none⟩) (by simp) _) (fun g hg' hm=>h.ab (by rw[hg'];simp at hm;rw[hm]))
theorem CK.set_bl (h:CK w K vs vb cs st) {w2:World} {cs2:List CB} (hg:Grows w w2 vb vb') (ho:w2.ownsRow K.bs 148 5 vb' cs2.length (cs2.flatMap CB.cs)) (hr:∀b∈cs2,ResIn w K vs vb b.res) :
  CK (w2.setCell ⟨K.cb,5,none⟩ vb') K vs vb' cs2 st∧NW w (w2.setCell ⟨K.cb,5,none⟩ vb') K.cb vs vb vs vb':=by
 have hcb:=h.size.2
 have hblk:w2.heap[K.cb]?=some (.cells #[K.c0,K.c1,K.c2,K.c3,vs,vb] 151 (0,0)):=(hg.only.block K.cb hcb (fun hm=>h.ab (by simpa using hm))).trans h.blk
 have hl:Lies w vb vb':=hg.lies
 have hos:=own_only3 h.os hg.only (fun g hg' hm=>h.av g hg' (by simpa using hm))
 have hnw:NW w (w2.setCell ⟨K.cb,5,none⟩ vb') K.cb vs vb vs vb' :=
  ⟨(hg.only.more (by simp;intro x hx;exact .inr (.inr hx))).trans (Only.setCell w2 (p:=⟨K.cb,5,none⟩) (by simp) _),Lies.refl _ _,hl⟩
 have ha:vb'.ownBlock≠some K.cb:=hl.apart h.ab hcb
 refine⟨⟨?_,h.bc,?_,?_,h.as_,ha,fun g hg'=>hl.apart (h.av g hg') (own_lt h.os g hg'),fun b hm=>(hr b hm).step hnw,fun q hq=>Nat.lt_of_lt_of_le (h.fz q hq) hnw.only.size⟩,hnw⟩
 ·rw[setCell_blk hblk];rfl
 ·exact own_only3 hos (Only.setCell (S:=[K.cb]) w2 (p:=⟨K.cb,5,none⟩) (by simp) _) (fun g hg' hm=>h.as_ (by rw[hg'];simp at hm;rw[hm]))
 ·exact own_only3 ho (Only.setCell (S:=[K.cb]) w2 (p:=⟨K.cb,5,none⟩) (by simp) _) (fun g hg' hm=>ha (by rw[hg'];simp at hm;rw[hm]))
theorem CK.set_cell (h:CK w K vs vb cs st) {g i j:Nat} {b b2:CB} {u:Value} (hg:vb.ownBlock=some g) (hi:cs[i]?=some b) (hj:j<5) (hb:CB.cs b2=(CB.cs b).set j u) (hres:b2.res=b.res) :
  CK (w.setCell ⟨g,i*5+j,none⟩ u) K vs vb (cs.set i b2) st∧NW w (w.setCell ⟨g,i*5+j,none⟩ u) K.cb vs vb vs vb:=by
 have hlt:=lt_some hi
 have ho:Only [g] w (w.setCell ⟨g,i*5+j,none⟩ u):=Only.setCell w (p:=⟨g,i*5+j,none⟩) (by simp) _
 have hnw:NW w (w.setCell ⟨g,i*5+j,none⟩ u) K.cb vs vb vs vb:=⟨ho.more (by intro q hq;simp at hq;subst hq;simp[hg]),Lies.refl _ _,Lies.refl _ _⟩
 refine⟨⟨(ho.block K.cb h.size.2 (fun hm=>h.ab (by rw[hg];simp at hm;rw[hm]))).trans h.blk,h.bc,own_only3 h.os ho (fun q hq hm=>h.av q hq (by rw[hg];simp at hm;rw[hm])),?_,h.as_,h.ab,h.av,fun b' hm=>?_,fun q hq=>Nat.lt_of_lt_of_le (h.fz q hq) hnw.only.size⟩,hnw⟩
 ·refine own_cast (own_setCell h.ob hg (i*5+j) (by have:=Nat.mul_le_mul_right 5 (show i+1≤cs.length from hlt);rw[Nat.succ_mul]at this;omega) u) (by simp) ?_
  exact flatMap_set (dec:=CB.cs) (fun _=>rfl) cs i j _ b2 _ hi hj hb
 ·rcases List.mem_or_eq_of_mem_set hm with hm|hm
  ·exact(h.rr b' hm).step hnw
  ·subst hm
   rw[hres]
   exact(h.rr b (List.mem_of_getElem? hi)).step hnw
theorem CK.cells (h:CK w K vs vb cs st) {g i:Nat} {b:CB} (hg:vb.ownBlock=some g) (hi:cs[i]?=some b) :
  w.cell? ⟨g,i*5,none⟩=some (.bool b.lp)∧w.cell? ⟨g,i*5+1,none⟩=some (.bool b.is_)∧w.cell? ⟨g,i*5+2,none⟩=some (.slice b.res.at_ b.res.l.length b.res.cap)∧w.cell? ⟨g,i*5+3,none⟩=some (.int .i64 (b.h:Int))∧w.cell? ⟨g,i*5+4,none⟩=some (.bool b.dead):=by
 have hk:=own_cell (g:=g) (dec:=CB.cs) (fun _=>rfl) h.ob hg hi
 exact⟨hk 0 (by omega) _ rfl,hk 1 (by omega) _ rfl,hk 2 (by omega) _ rfl,hk 3 (by omega) _ rfl,hk 4 (by omega) _ rfl⟩
theorem CK.rowf (h:CK w K vs vb cs st) {g:Nat} (hg:vb.ownBlock=some g) (i:Nat):w.frozen? ⟨g,i,none⟩=false:=own_free h.ob hg i
end
def psOf (cs:List CB) (st:List UInt8):PS:=⟨st,cs.map CB.p⟩
end Go.Proofs.YtmekgpdfiimofaaGreatDoor
