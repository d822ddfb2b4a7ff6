import Derived.Test.YtomppgohoplemaaGreatNBI
set_option linter.unusedVariables false
namespace Go.Proofs.YtomppgohoplemaaGreat
open Go.RowKit
theorem take_flat {α β:Type} {f:α→List β} {l:List α} {k:Nat} {x:α} (h:l[k]?=some x):(l.take (k+1)).flatMap f=(l.take k).flatMap f++f x:=by
 rw[List.take_add_one,h,List.flatMap_append]
 simp
theorem take_len {α β:Type} {f:α→List β} {n:Nat}:∀(l:List α) (k:Nat),(∀x∈l,(f x).length≤n)→((l.take k).flatMap f).length≤n*k:=by
 intro l
 induction l with
 | nil=>intro k _;simp
 | cons x r ih =>
  intro k h
  cases k with
  | zero=>simp
  | succ k =>
   have h1:=ih k (fun y hy=>h y (by simp[hy]))
   have h2:=h x (by simp)
   rw[List.take_succ_cons,List.flatMap_cons,List.length_append]
   have:n*(k+1)=n*k+n:=Nat.mul_succ n k
   omega
set_option maxRecDepth 100000 in
set_option maxHeartbeats 6400000 in
theorem body_right (y:BdL) (w:World) (h:Hid (BdIn w y)) (hz:Hid (BdSz y)) (hq:Hid (rightB y.g=true)) (hn:Hid (nestE y.g=0)) :
  Calls Tryz.prog 43 #[.agg #[.slice y.loc.at_ y.loc.l.length y.loc.cap,.slice y.l.at_ y.l.l.length y.l.cap]] w (BodyP w y.g):=by
 obtain⟨W,hW,hb,hxb,hsz⟩:=box_new w #[.slice y.loc.at_ y.loc.l.length y.loc.cap,.slice y.l.at_ y.l.l.length y.l.cap] 76
 have e0:=cell_blk hxb 0
 have e1:=cell_blk hxb 1
 simp at e0 e1
 have hB:=hide (h.out.below hb)
 have HR:=hide (bright_any y W hB hz)
 rw[hq.out]at HR
 have z1:=hz.out.loc
 have z2:=hz.out.l
 have HS:=hide (fun (V:World) (hV:Below W.heap.size W V)=>spans_any y.l.at_ y.l.l.length y.l.cap V _ _ (hide (XL.il (hB.out.below hV))) (by omega))
 have HRU:=hide (fun (V:World) (hV:Below W.heap.size W V)=>runs_any y.loc.at_ y.loc.cap y.loc.l V (hide (hB.out.below hV).loc.bytes) z1)
 have hE:Hid (errB y.g=if 4096<(encB y.g).length then 15 else 0):=by show _=_;unfold errB;rw[hq.out,if_pos rfl,if_neg (by rw[hn.out];simp)]
 have hall:Hid (∀x∈y.l.l,rightX x.x=true):=by
  have:=hq.out
  unfold rightB at this
  simp only[Bool.and_eq_true,BdL.g,List.all_map,List.all_eq_true]at this
  exact this.1
 have hl50:y.loc.l.length≤50:=by
  have:=hq.out
  unfold rightB at this
  simp only[Bool.and_eq_true,BdL.g]at this
  exact of_decide_eq_true this.2.2
 have hrl:=bruns_len y.loc.l
 have HB:=hide hb;have HW:=hide hW;have HX:=hide hxb
 have hn0:Hid ((goN (codesB y.g) (codesB y.g) 0 initN).2.1=0):=hn
 have HEB:Hid (encB y.g=putN (brunsL y.loc.l).length++((brunsL y.loc.l).flatMap runB++y.l.l.flatMap (fun x=>encX x.x))):=by
  show _=_
  unfold encB
  simp[BdL.g,List.flatMap_map]
 obtain⟨rs,hrs⟩:∃rs,brunsL y.loc.l=rs:=⟨_,rfl⟩
 have HRS:=hide hrs
 rw[hrs]at hrl HEB
 obtain⟨rn,hrn⟩:∃rn,rs.length=rn:=⟨_,rfl⟩
 have hrn50:rn≤50:=by omega
 have hr2:Hid (∀r∈rs,r.1≤50):=fun r hr=>by have:=hrl.2 r hr;omega
 clear hb hW hxb hsz hq hrs hrl z1 hl50
 go_enter Tryz.func43,Tryz.ntmps43
 go_upto_region 1 with fail
 rw[HW.out]
 go_wp2_with fail
 refine HR.out.mono ?_;rintro e w2 ⟨rfl,h2⟩
 have e2:=cell_blk ((h2.out.block w.heap.size (blk_lt HX.out)).trans HX.out) 1
 simp at e2
 clear HR e0 e1
 go_wp2_with fail
 refine(HS.out w2 h2.out).mono ?_;rintro e w3 ⟨v',ss,rfl,_,_,h3⟩
 rw[hn0.out]
 have h23:=hide (h2.out.trans (h3.out.mono h2.out.size))
 have e3:=cell_blk ((h23.out.block w.heap.size (blk_lt HX.out)).trans HX.out) 0
 simp at e3
 clear h2 h3 HS e2
 go_wp2_with fail
 refine(HRU.out w3 h23.out).mono ?_;rintro e w4 ⟨v7,rfl,o7,h4⟩
 rw[HRS.out]at o7
 have h24:=hide (h23.out.trans (h4.out.mono h23.out.size))
 obtain⟨A7,c7,hv7,hc7,hc7b⟩:=own_form o7.out
 subst hv7
 rw[hrn]at o7 hc7
 have hrow:Hid (Reads w4 w4.heap.size 2 A7 rn (rs.flatMap runD)):=Reads.of_own o7.out
 have HB4:Hid (Below w.heap.size w w4):=HB.out.trans (h24.out.mono HB.out.size)
 have HXB4:Hid (w4.heap[w.heap.size]?=some (.cells #[.slice y.loc.at_ y.loc.l.length y.loc.cap,.slice y.l.at_ y.l.l.length y.l.cap] 76 (0,0))):=(h24.out.block w.heap.size (blk_lt HX.out)).trans HX.out
 have hB4:=hide (hB.out.below h24.out)
 rw[hrn]
 obtain⟨base,hbase⟩:∃b,w4.heap.size=b:=⟨_,rfl⟩
 rw[hbase]at hrow
 have HBA:=hide hbase
 have HPT:=hide (put_any base (.slice none 0 0) [] rn w4 (hide (by omega)) (own_nil _ _ _ _) (by omega) (by simp))
 rw[List.nil_append]at HPT
 clear o7 h4 h23 HRU e3 hbase hB HX h h24
 go_wp2_with fail
 refine HPT.out.mono ?_;rintro e w5 ⟨v8,rfl,o8,g8⟩
 have HO8:Hid (OB w4 base w5 v8 (putN rn)):=⟨o8,by rw[←HBA.out];exact g8.below (by rw[HBA.out];exact Nat.le_refl _) (fun g hg=>by cases hg),by rw[←HBA.out];exact g8.by_.size⟩
 clear o8 g8 HPT
 go_wp2_with fail
 go_loopw [8,10,37] (fun v x i w1=>∃k:Nat,i=.int .i64 (k:Int)∧k≤rn∧Hid (OB w4 base w1 v (putN rn++(rs.take k).flatMap runB))) (fun _ _ i _=>rn-(intOf i).toNat)
 case atStart=>exact⟨0,rfl,by omega,by show OB _ _ _ _ _;simpa using HO8.out⟩
 case round =>
  obtain⟨k,rfl,hk,HO⟩:=hrel
  by_cases hlt:k<rn
  ·obtain⟨r,hr⟩:∃r,rs[k]?=some r:=⟨_,List.getElem?_eq_getElem (by omega)⟩
   obtain⟨n,t⟩:=r
   obtain⟨ad,rfl,hadb,hcells⟩:=(hrow.out.below HO.out.bel).2 (by omega)
   have hcell:∀j,j<2→∀u,(runD (n,t))[j]?=some u→wr.cell? ((ad.add (k*2)).add j)=some u:=by
    intro j hj u hu
    rw[add_of_add]
    exact hcells _ _ (by rw[flatMap_get (dec:=runD) (size:=2) (fun _=>rfl) rs k j _ hr hj];exact hu)
   have q0:=hcell 0 (by omega) _ rfl
   have q1:=hcell 1 (by omega) _ rfl
   rw[show (ad.add (k*2)).add 0=ad.add (k*2)from by simp[Addr.add]]at q0
   rw[addr_pos _ 1 (by omega)]at q1
   have hn50:n≤50:=hr2.out (n,t) (List.mem_of_getElem? hr)
   obtain⟨W6,hW6,hb6,hx6,hs6⟩:=box_new wr #[.int .i64 (n:Int),.int .u8 (t.toNat:Int)] 167
   obtain⟨xg,hxg⟩:∃xg,wr.heap.size=xg:=⟨_,rfl⟩
   have HO6:=hide (HO.out.step hb6)
   rw[hxg]at hx6
   obtain⟨ys,hys⟩:∃ys,putN rn++(rs.take k).flatMap runB=ys:=⟨_,rfl⟩
   rw[hys]at HO6
   have hyl:ys.length≤2000:=by
    rw[←hys,List.length_append]
    have h1:=putN_length rn
    have h2:=take_len (f:=runB) (n:=11) rs k (fun x hx=>by have:=putN_length x.1;simp[runB];omega)
    omega
   have hnext:Hid (putN rn++(rs.take (k+1)).flatMap runB=(ys++putN n)++[t]):=by
    show _=_
    rw[take_flat hr,←List.append_assoc,hys]
    simp[runB]
   have hvb:Hid (∀q,u8.ownBlock=some q→q<xg):=fun q hq=>by have:=own_lt HO.out.own q hq;omega
   have hxge:base≤xg:=by have:=HO.out.size;omega
   have HW6:=hide hW6;have HX6:=hide hx6;have HXG:=hide hxg
   have hroom:Room (ys++putN n).length 1 1:=room_of (by rw[List.length_append];have:=putN_length n;omega) (by omega)
   clear hcells hcell hr hW6 hb6 hx6 hs6 hxg hys
   go_upto_region 11 with fail
   rw[HW6.out,HXG.out]
   refine wp_region_two (l:=[_,_,_,_,_,_,_,_]) (o1:=_) (o2:=_) grew_ext (Only.ext u8.ownBlock.toList) (fun _ _ h=>Only.of_below h) [4] 4 (factsOf [fun yy _=>yy=u8,
    fun yy _=>yy=.pointer (some ⟨xg,0,none⟩),
    fun yy _=>yy=.int .i64 (n:Int),
    fun yy _=>yy=.int .u64 (n:Int),
    fun yy WW=>OB w4 base WW yy (ys++putN n),
    fun yy _=>yy=.pointer (some ⟨xg,1,none⟩),
    fun yy _=>yy=.int .u8 (t.toNat:Int),
    fun yy WW=>∃q,yy=.slice (some ⟨q,0,none⟩) 1 1∧xg≤q∧WW.heap[q]?=some (.cells #[.int .u8 (t.toNat:Int)] 5 (0,0))]) (by kernel_rfl) (by kernel_rfl) (by kernel_rfl) (by kernel_rfl) (by kernel_rfl) (by kernel_rfl) (by kernel_rfl) (by decide) rfl (by intro z hz;rw[List.mem_singleton]at hz;subst hz;exact(show (4:Nat)<8 by decide)) (by kernel_rfl) (no_stores (by kernel_rfl)) ?_ ?_
   ·refine⟨?_,?_,?_,?_,?_,?_,?_,?_,trivial⟩
    ·refine ObD.plain (by decide) rfl fun ρ W3 hk=>?_
     exact OpOut.move (.tmp 8) rfl ⟨Below.refl _ _,hk.old 8 (by decide)⟩
    ·refine ObD.plain (by decide) rfl fun ρ W3 hk=>?_
     have o1:ρ (.tmp 10)=.pointer (some ⟨xg,0,none⟩):=hk.old 10 (by decide)
     exact OpOut.fieldAddr (x:=.tmp 10) rfl o1 (by go_simp) ⟨Below.refl _ _,rfl⟩
    ·refine ObD.plain (by decide) rfl fun ρ W3 hk=>?_
     have h1:=(hk.fact 1 42 (by decide) rfl).pure
     have hc:=cell_blk ((hk.below.block xg (blk_lt HX6.out) (fun hm=>by have:=hvb.out xg (by simpa using hm);omega)).trans HX6.out) 0
     simp at hc
     exact OpOut.load (x:=.tmp 42) rfl h1 (by go_simp) ⟨Below.refl _ _,rfl⟩
    ·refine ObD.plain (by decide) rfl fun ρ W3 hk=>?_
     have h2:=(hk.fact 2 43 (by decide) rfl).pure
     exact OpOut.conv (x:=.tmp 43) rfl (by rw[h2];go_simp;exact u64_nat n (by omega)) ⟨Below.refl _ _,rfl⟩
    ·refine ObD.first rfl rfl fun ρ W3 hk hk1=>?_
     have h0:=(hk1.fact 0 41 (by decide) rfl).pure
     have h3:=(hk1.fact 3 44 (by decide) rfl).pure
     have HEW:=HO6.out.step hk1.below
     refine OpOut.fn (args:=#[u8,.int .u64 (n:Int)]) rfl (hk.func _) (by simp[h0,h3]) Tryz.func66 (by kernel_rfl) rfl ?_
     refine(put_any base u8 ys n W3 (hide (by omega)) HEW.own HEW.size (by omega)).mono ?_;rintro e w5 ⟨v',rfl,ho2,hg2⟩
     exact⟨_,rfl,hg2.only,HEW.put (Below.refl _ _) ho2 hg2⟩
    ·refine ObD.plain (by decide) rfl fun ρ W3 hk=>?_
     have o1:ρ (.tmp 10)=.pointer (some ⟨xg,0,none⟩):=hk.old 10 (by decide)
     exact OpOut.fieldAddr (x:=.tmp 10) rfl o1 (by go_simp) ⟨Below.refl _ _,rfl⟩
    ·refine ObD.plain (by decide) rfl fun ρ W3 hk=>?_
     have h1:=(hk.fact 5 46 (by decide) rfl).pure
     have hc:=cell_blk ((hk.below.block xg (blk_lt HX6.out) (fun hm=>by have:=hvb.out xg (by simpa using hm);omega)).trans HX6.out) 1
     simp at hc
     exact OpOut.load (x:=.tmp 46) rfl h1 (by go_simp) ⟨Below.refl _ _,rfl⟩
    ·refine ObD.plain (by decide) rfl fun ρ W3 hk=>?_
     have h6:=(hk.fact 6 47 (by decide) rfl).pure
     have hsz:=hk.below.size
     have hlt6:=blk_lt HX6.out
     exact OpOut.buildSlice (us:=#[(0,.int .u8 (t.toNat:Int))]) rfl (by simp[h6]) (by go_simp) ⟨(Below.refl _ _).alloc (Nat.le_refl _) _,W3.heap.size,rfl,by omega,heap_alloc_new W3 _⟩
   ·intro vs W4 hb4 hf hlast
    obtain⟨wz,hwz,hRE⟩:=hlast
    have HR4:=hide (hRE.step hwz)
    obtain⟨wy,hwy,q,hz,hqx,oz⟩:=hf 7 (by decide)
    have ozW:=(hwy.block q (blk_lt oz) (fun hm=>by have:=hvb.out q (by simpa using hm);omega)).trans oz
    have rz:Hid (Reads W4 W4.heap.size 1 (some ⟨q,0,none⟩) 1 [.int .u8 (t.toNat:Int)]):=reads_blk (cs:=[.int .u8 (t.toNat:Int)]) ozW rfl
    clear hf hRE hwz hwy oz ozW hb4
    simp only[fillL]
    rw[hz]
    obtain⟨v5,hv5⟩:∃v5,vs 4=v5:=⟨_,rfl⟩
    rw[hv5]at HR4 ⊢
    generalize vs 0=y0,vs 1=y1,vs 2=y2,vs 3=y3,vs 5=y5,vs 6=y6
    clear hz hv5
    go_frame
    have hsz4:=HR4.out.size
    have HO4:=hide HR4.out.own
    refine wpList_append_any rfl (.tmp 45) (.tmp 48) rfl base u8_elem v5 (ys++putN n).length ((ys++putN n).map B) rfl HO4.out W4.heap.size (some ⟨q,0,none⟩) 1 1 [.int .u8 (t.toNat:Int)] rfl rz.out (by simp[Value.oneCell']) hroom hsz4 ?_
    intro v6 w6 ho6 hg6
    have HE6:Hid (OB w4 base w6 v6 ((ys++putN n)++[t])):=HR4.out.put (Below.refl _ _) (OwnB.appB (bs:=[t]) ho6) hg6
    rw[←hnext.out]at HE6
    clear ho6 hg6
    refine tail_of_list rfl ?_
    go_wp2_with fail
    go_roundw
    case rel=>exact⟨k+1,by go_num,by omega,HE6⟩
    case measure=>simp[intOf]<;>omega
  ·have hkn:k=rn:=by omega
   subst hkn
   have hfull:=HO.out
   rw[List.take_of_length_le (by omega)]at hfull
   have HF:=hide hfull
   clear hlt hfull HO HO8 hrow
   have c1:=cell_blk ((HF.out.bel.block w.heap.size (by rw[←HBA.out];exact blk_lt HXB4.out)).trans HXB4.out) 1
   simp at c1
   go_wp2_with fail
   obtain⟨ys,hys⟩:∃ys,putN k++rs.flatMap runB=ys:=⟨_,rfl⟩
   rw[hys]at HF
   have hyl:ys.length≤2000:=by
    rw[←hys,List.length_append]
    have h1:=putN_length k
    have h2:=runs_le rs
    omega
   have HEB2:Hid (encB y.g=ys++y.l.l.flatMap (fun x=>encX x.x)):=by show _=_;rw[HEB.out,hrn,←hys,List.append_assoc]
   clear HEB hys
   go_loopw [8,12,13,14,54] (fun v x p q i w1=>∃j:Nat,i=.int .i64 (j:Int)∧j≤y.l.l.length∧Hid (OB w4 base w1 v (ys++(y.l.l.take j).flatMap (fun x=>encX x.x)))) (fun _ _ _ _ i _=>y.l.l.length-(intOf i).toNat)
   case atStart=>exact⟨0,rfl,by omega,by show OB _ _ _ _ _;simpa using HF.out⟩
   case round =>
    obtain⟨j,rfl,hj,HO⟩:=hrel
    have hbw:Below w4.heap.size w4 wr:=by rw[HBA.out];exact HO.out.bel
    by_cases hlt:j<y.l.l.length
    ·obtain⟨x,hx⟩:∃x,y.l.l[j]?=some x:=⟨_,List.getElem?_eq_getElem hlt⟩
     have hmem:=List.mem_of_getElem? hx
     have hin:=(hB4.out.below hbw)
     obtain⟨ad,ha,_,k0,kj⟩:=hin.l.at_ (fun _=>rfl) hx
     have q0:wr.cell? (ad.add (j*5))=some (.int .i64 x.code):=k0 _ rfl (by omega)
     have q1:wr.cell? ⟨(ad.add (j*5)).block,(ad.add (j*5)).off+1,none⟩=some (.int .u64 (x.a:Int)):=kj 1 (by omega) (by omega) _ rfl
     have q2:wr.cell? ⟨(ad.add (j*5)).block,(ad.add (j*5)).off+2,none⟩=some (.int .u64 (x.b:Int)):=kj 2 (by omega) (by omega) _ rfl
     have q3:wr.cell? ⟨(ad.add (j*5)).block,(ad.add (j*5)).off+3,none⟩=some (.int .i64 x.al):=kj 3 (by omega) (by omega) _ rfl
     have q4:wr.cell? ⟨(ad.add (j*5)).block,(ad.add (j*5)).off+4,none⟩=some (.slice x.l.at_ x.l.l.length x.l.cap):=kj 4 (by omega) (by omega) _ rfl
     obtain⟨W6,hW6,hb6,hx6,hs6⟩:=box_new wr #[.int .i64 x.code,.int .u64 (x.a:Int),.int .u64 (x.b:Int),.int .i64 x.al,.slice x.l.at_ x.l.l.length x.l.cap] 131
     have HO6:=hide (HO.out.step hb6)
     have hlx:=hz.out.lab x hmem
     have HEN:=hide (encode_yes x.x x.l.at_ x.l.cap W6 (hide (hin.num x hmem)) (hide ((hin.lab x hmem).below hb6).nums) (show x.l.l.length≤1000000 by omega) (hide (hall.out x hmem)))
     simp only[show x.x.code=x.code from rfl,show x.x.a=x.a from rfl,show x.x.b=x.b from rfl,show x.x.al=x.al from rfl,show x.x.l=x.l.l from rfl]at HEN
     have g0:=cell_blk hx6 0
     have g1:=cell_blk hx6 1
     have g2:=cell_blk hx6 2
     have g3:=cell_blk hx6 3
     have g4:=cell_blk hx6 4
     simp at g0 g1 g2 g3 g4
     have hel:=encX_le (hin.num x hmem) (hall.out x hmem)
     have htl:((y.l.l.take j).flatMap (fun x=>encX x.x)).length≤2000*j:=take_len (f:=fun x:XL=>encX x.x) y.l.l j (fun z hz=>encX_le (hin.num z hz) (hall.out z hz))
     obtain⟨zs,hzs⟩:∃zs,ys++(y.l.l.take j).flatMap (fun x=>encX x.x)=zs:=⟨_,rfl⟩
     have hzl:zs.length≤2100000:=by rw[←hzs,List.length_append];omega
     have hnext:Hid (ys++(y.l.l.take (j+1)).flatMap (fun x=>encX x.x)=zs++encX x.x):=by
      show _=_
      rw[take_flat hx,←List.append_assoc,hzs]
     rw[hzs]at HO6
     obtain⟨bs,hbs⟩:∃bs,encX x.x=bs:=⟨_,rfl⟩
     rw[hbs]at hel hnext
     have HBS:=hide hbs
     have hroom:Room zs.length bs.length 1:=room_of (by omega) (by omega)
     have HW6:=hide hW6
     rw[ha]
     clear k0 kj hx hW6 hb6 hx6 hs6 hzs htl hin hmem hlx hbs hbw ha
     go_upto_region 16 with fail
     rw[HW6.out]
     go_wp2_with fail
     refine HEN.out.mono ?_;rintro e w7 ⟨v13,rfl,hv13,hb7⟩
     rw[HBS.out]at hv13
     obtain⟨A9,c9,hv9,_,_⟩:=own_form hv13.out
     subst hv9
     have rz:Hid (Reads w7 w7.heap.size 1 A9 bs.length (bs.map B)):=Reads.of_own hv13.out
     have HO7:=hide (HO6.out.step hb7.out)
     have hsz7:=HO7.out.size
     have HOW:=hide HO7.out.own
     clear HEN hb7 HO6 g0 g1 g2 g3 g4 q0 q1 q2 q3 q4 hv13
     go_wp2_with (at_builtin;refine wpList_append_any rfl _ _ rfl base u8_elem u8 zs.length (zs.map B) rfl HOW.out w7.heap.size A9 bs.length c9 (bs.map B) rfl rz.out (B_map_one _) hroom hsz7 ?_;intro v6 w8 ho6 hg6;have HE6:Hid (OB w4 base w8 v6 (zs++bs)):=HO7.out.put (Below.refl _ _) (OwnB.appB ho6) hg6;clear ho6 hg6)
     go_roundw
     case rel=>exact⟨j+1,by go_num,by omega,by rw[hnext.out];exact HE6⟩
     case measure=>simp[intOf]<;>omega
    ·have hjn:j=y.l.l.length:=by omega
     subst hjn
     have hfull:=HO.out
     rw[List.take_of_length_le (Nat.le_refl _),←HEB2.out]at hfull
     obtain⟨A9,c9,hv9,hc9,hc9b⟩:=own_form hfull.own
     subst hv9
     obtain⟨en,hen⟩:∃en,(encB y.g).length=en:=⟨_,rfl⟩
     rw[hen]at hE hc9
     have HEN:=hide hen
     have HF2:=hide hfull
     rw[hen]
     have hel:en≤9223372036854775807:=by unfold maxLen at hc9b;omega
     clear hlt hfull HO HF hc9 hc9b hbw hen
     have hfin:Hid (Below w.heap.size w wr):=by
      have h1:Below base w4 wr:=HF2.out.bel
      exact HB4.out.trans (h1.mono (by rw[←HBA.out];exact HB4.out.size))
     by_cases h4:4096<en
     ·rw[if_pos h4]at hE
      have hd:decide ((4096:Int)<(en:Int))=true:=decide_eq_true (by omega)
      clear h4
      go_wp2_with fail
      go_ret2
      exact⟨_,[],by rw[hE.out];rfl,own_nil _ _ _ _,hfin,by rw[hE.out];exact hide rfl⟩
     ·rw[if_neg h4]at hE
      have hd:decide ((4096:Int)<(en:Int))=false:=decide_eq_false (by omega)
      clear h4
      go_wp2_with fail
      go_ret2
      refine⟨_,encB y.g,by rw[hE.out];rfl,?_,hfin,by rw[hE.out];exact hide rfl⟩
      have:=own_base HF2.out.own (base':=w.heap.size) (fun g hg=>by have:=own_ge HF2.out.own g hg;have:=HB4.out.size;have:=HBA.out;omega)
      unfold OwnB at this
      rw[HEN.out]at this
      exact own_cast this HEN.out.symm rfl
theorem body_any (y:BdL) (w:World) (h:Hid (BdIn w y)) (hz:Hid (BdSz y)) :
  Calls Tryz.prog 43 #[.agg #[.slice y.loc.at_ y.loc.l.length y.loc.cap,.slice y.l.at_ y.l.l.length y.l.cap]] w (BodyP w y.g):=by
 cases hq:rightB y.g with
 | false=>exact body_wrong y w h hz hq
 | true =>
  by_cases hn:nestE y.g=0
  ·exact body_right y w h hz hq hn
  ·exact body_nest y w h hz hq hn
end Go.Proofs.YtomppgohoplemaaGreat
