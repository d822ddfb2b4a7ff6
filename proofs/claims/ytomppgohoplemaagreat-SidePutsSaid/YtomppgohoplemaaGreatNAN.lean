import Derived.Test.YtomppgohoplemaaGreatNAM
set_option linter.unusedVariables false
namespace Go.Proofs.YtomppgohoplemaaGreat
open Go.RowKit
theorem own_setCell {w:World} {base:Nat} {e:TypeId} {size n:Nat} {v:Value} {xs:List Value} {g:Nat} (h:w.ownsRow base e size v n xs) (hg:v.ownBlock=some g) (k:Nat) (hk:k<n*size) (u:Value):(w.setCell ⟨g,k,none⟩ u).ownsRow base e size v n (xs.set k u):=by
 refine⟨by rw[List.length_set];exact h.1,?_⟩
 rcases h.2 with ⟨rfl,_⟩|⟨g',cap,cur,rfl,hbg,hh,h1,h2,h3,h4⟩
 ·cases hg
 ·have:g'=g:=by injection hg
  subst this
  refine .inr ⟨g',cap,cur.setIfInBounds k u,rfl,hbg,setCell_blk hh k u,h1,h2,by simpa using h3,?_⟩
  rw[←h4,Array.toList_setIfInBounds,List.take_set]
theorem flatMap_set {α:Type} {dec:α→List Value} {size:Nat} (hd:∀a,(dec a).length=size):∀(ys:List α) (t j:Nat) (a b:α) (u:Value),ys[t]?=some a→j<size→dec b=(dec a).set j u→(ys.flatMap dec).set (t*size+j) u=(ys.set t b).flatMap dec:=by
 intro ys
 induction ys with
 | nil=>intro t j a b u h;simp at h
 | cons c r ih =>
  intro t j a b u h hj hu
  rw[List.flatMap_cons]
  cases t with
  | zero =>
   have:c=a:=by simpa using h
   subst this
   rw[Nat.zero_mul,Nat.zero_add,List.set_append_left _ _ (by rw[hd];exact hj),List.set_cons_zero,List.flatMap_cons,hu]
  | succ t =>
   rw[List.set_append_right _ _ (by rw[hd,Nat.succ_mul];omega),hd,List.set_cons_succ,List.flatMap_cons,show (t+1)*size+j-size=t*size+j from by rw[Nat.succ_mul];omega,ih t j a b u (by simpa using h) hj hu]
theorem own_short {w:World} {base:Nat} {e:TypeId} {size n c:Nat} {A:Option Addr} {xs:List Value} (h:w.ownsRow base e size (.slice A (n+1) c) (n+1) xs):w.ownsRow base e size (.slice A n c) n (xs.take (n*size)):=by
 refine⟨by rw[List.length_take,h.1,Nat.succ_mul];omega,?_⟩
 rcases h.2 with ⟨h1,_⟩|⟨g',cap,cur,h0,hbg,hh,h1,h2,h3,h4⟩
 ·injection h1 with _ h1;omega
 ·injection h0 with h0 h5 h6
  subst h0
  subst h6
  refine .inr ⟨g',c,cur,rfl,hbg,hh,by omega,h2,h3,?_⟩
  rw[←h4,List.take_take,Nat.min_eq_left (by rw[Nat.succ_mul];omega)]
def insD (x:Int×Int×Int×Int×Value):List Value:=[.int .i64 x.1,.int .u64 x.2.1,.int .u64 x.2.2.1,.int .i64 x.2.2.2.1,x.2.2.2.2]
structure IL (w:World) (Al:Option Addr) (n:Nat) (xs:List (Int×Int×Int×Int×Value)) (cs:List Int):Prop where
 reads:Reads w w.heap.size 5 Al n (xs.flatMap insD)
 len:xs.length=n
 codes:xs.map (·.1)=cs
 bd:∀c∈cs,-9223372036854775808≤c∧c≤9223372036854775807
 one:∀x∈xs,x.2.2.2.2.oneCell'=true
theorem IL.code {w:World} {Al:Option Addr} {n:Nat} {xs:List (Int×Int×Int×Int×Value)} {cs:List Int} (h:IL w Al n xs cs) {i:Nat} (hi:i<n) :
  ∃(ad:Addr) (c a b al:Int) (v:Value),Al=some ad∧cs[i]?=some c∧v.oneCell'=true∧w.cell? (ad.add (i*5))=some (.int .i64 c)∧w.cell? ⟨(ad.add (i*5)).block,(ad.add (i*5)).off+1,none⟩=some (.int .u64 a) ∧
   w.cell? ⟨(ad.add (i*5)).block,(ad.add (i*5)).off+2,none⟩=some (.int .u64 b)∧w.cell? ⟨(ad.add (i*5)).block,(ad.add (i*5)).off+3,none⟩=some (.int .i64 al)∧w.cell? ⟨(ad.add (i*5)).block,(ad.add (i*5)).off+4,none⟩=some v ∧
   -9223372036854775808≤c∧c≤9223372036854775807:=by
 obtain⟨ad,h1,_,h2⟩:=h.reads.2 (by omega)
 have hi':i<xs.length:=by rw[h.len];exact hi
 have hg:=List.getElem?_eq_getElem hi'
 have hc:cs[i]?=some (xs[i]).1:=by rw[←h.codes,List.getElem?_map,hg];rfl
 have hk:∀j,j<5→∀u,(insD xs[i])[j]?=some u→w.cell? ((ad.add (i*5)).add j)=some u:=by
  intro j hj u hu
  rw[add_of_add]
  exact h2 _ _ (by rw[flatMap_get (dec:=insD) (size:=5) (fun _=>rfl) xs i j _ hg hj];exact hu)
 have hb:=h.bd _ (List.mem_of_getElem? hc)
 refine⟨ad,_,(xs[i]).2.1,(xs[i]).2.2.1,(xs[i]).2.2.2.1,(xs[i]).2.2.2.2,h1,hc,h.one _ (List.getElem_mem hi'),?_,hk 1 (by omega) _ rfl,hk 2 (by omega) _ rfl,hk 3 (by omega) _ rfl,hk 4 (by omega) _ rfl,hb.1,hb.2⟩
 have:=hk 0 (by omega) _ rfl
 rwa [show (ad.add (i*5)).add 0=ad.add (i*5)from by simp[Addr.add]]at this
set_option maxHeartbeats 400000 in
theorem opens_any (c a b al:Int) (v:Value) (w:World) (hv:v.oneCell'=true) (h1:-9223372036854775808≤c) (h2:c≤9223372036854775807) :
  Calls Tryz.prog 70 #[.agg #[.int .i64 c,.int .u64 a,.int .u64 b,.int .i64 al,v]] w fun e w'=>e=.returned (.bool (decide (opensC c)))∧Hid (Only [] w w'):=by
 by_cases e2:c=2
 ·subst e2
  go_enter Tryz.func70,Tryz.ntmps70
  go_wp2_with fail
  go_ret
  exact⟨rfl,Only.alloc _ _ _⟩
 ·by_cases e3:c=3
  ·subst e3
   go_enter Tryz.func70,Tryz.ntmps70
   go_wp2_with fail
   go_ret
   exact⟨rfl,Only.alloc _ _ _⟩
  ·by_cases e4:c=4
   ·subst e4
    go_enter Tryz.func70,Tryz.ntmps70
    go_wp2_with fail
    go_ret
    exact⟨rfl,Only.alloc _ _ _⟩
   ·have ho:decide (opensC c)=false:=by unfold opensC;simp[e2,e3,e4]
    rw[ho]
    have f2:(c==2)=false:=by simpa using e2
    have f3:(c==3)=false:=by simpa using e3
    have f4:(c==4)=false:=by simpa using e4
    clear e2 e3 e4 ho
    go_enter Tryz.func70,Tryz.ntmps70
    go_wp2_with fail
    go_ret
    exact⟨rfl,Only.alloc _ _ _⟩
set_option maxHeartbeats 400000 in
theorem begin_full (nb:Nat) (Al:Option Addr) (n cl:Nat) (vs vo:Value) (s:NS) (i:Nat) (w:World) (h:Hid (NE w nb Al n cl vs vo s)) (h64:s.opn.length=64) :
  Calls Tryz.prog 71 #[.pointer (some ⟨nb,0,none⟩),.int .i64 i] w (NPost w nb Al n cl vs vo s 15):=by
 obtain⟨Ao,co,hvo,ho1,ho2⟩:=own_form h.out.op
 rw[h64]at hvo ho1
 have c2:=cell_blk h.out.blk 2
 simp[hvo]at c2
 have H64:=hide h64;clear h64
 have HVO:=hide hvo;clear hvo
 go_enter Tryz.func71,Tryz.ntmps71
 go_wp2_with fail
 go_ret
 exact⟨vs,vo,rfl,h,Only.refl _ _,Lies.refl _ _,Lies.refl _ _⟩
theorem NE.set_span {w:World} {nb:Nat} {Al:Option Addr} {n cl:Nat} {vs vo:Value} {s:NS} (h:NE w nb Al n cl vs vo s) {g t j:Nat} (hg:vs.ownBlock=some g) (ht:t<s.spans.length) (hj:j<3) (x:Int×Int×Int) (u:Int) (hx:spanD x=(spanD (spanN s t)).set j (.int .i64 u)) :
  NE (w.setCell ⟨g,t*3+j,none⟩ (.int .i64 u)) nb Al n cl vs vo { s with spans:=s.spans.set t x }∧NW w (w.setCell ⟨g,t*3+j,none⟩ (.int .i64 u)) nb vs vo vs vo:=by
 have hst:s.spans[t]?=some (spanN s t):=by unfold spanN;rw[List.getD_eq_getElem?_getD,List.getElem?_eq_getElem ht];rfl
 have hge:=own_ge h.sp g hg
 have ho:Only [g] w (w.setCell ⟨g,t*3+j,none⟩ (.int .i64 u)):=Only.setCell w (p:=⟨g,t*3+j,none⟩) (by simp) _
 refine⟨⟨(ho.block nb (blk_lt h.blk) (by simp;omega)).trans h.blk,?_,own_only3 h.op ho (fun q hq hm=>h.apart g hg (by simp at hm;rw[←hm];exact hq)),h.apart⟩,⟨ho.more (by intro q hq;simp at hq;subst hq;simp[hg]),Lies.refl _ _,Lies.refl _ _⟩⟩
 refine own_cast (own_setCell h.sp hg (t*3+j) (by have:=Nat.mul_le_mul_right 3 (show t+1≤s.spans.length from ht);rw[Nat.succ_mul]at this;omega) (.int .i64 u)) (by simp) ?_
 exact flatMap_set (dec:=spanD) (fun _=>rfl) s.spans t j _ x _ hst hj hx
theorem span_cells {w:World} {nb:Nat} {Al:Option Addr} {n cl:Nat} {vs vo:Value} {s:NS} (h:NE w nb Al n cl vs vo s) {g t:Nat} (hg:vs.ownBlock=some g) (ht:t<s.spans.length) :
  w.cell? ⟨g,t*3,none⟩=some (.int .i64 (spanN s t).1)∧w.cell? ⟨g,t*3+1,none⟩=some (.int .i64 (spanN s t).2.1)∧w.cell? ⟨g,t*3+2,none⟩=some (.int .i64 (spanN s t).2.2):=by
 have hst:s.spans[t]?=some (spanN s t):=by unfold spanN;rw[List.getD_eq_getElem?_getD,List.getElem?_eq_getElem ht];rfl
 have hk:∀j u,j<3→(spanD (spanN s t))[j]?=some u→w.cell? ⟨g,t*3+j,none⟩=some u:=by
  intro j u hj hu
  have:=h.sp.cells (g:=g) hg (t*3+j) u (by rw[flatMap_get (dec:=spanD) (size:=3) (fun _=>rfl) s.spans t j _ hst hj];exact hu)
  rwa [show Addr.add ⟨g,0,none⟩ (t*3+j)=⟨g,t*3+j,none⟩from by unfold Addr.add;split<;>simp_all]at this
 exact⟨hk 0 _ (by omega) rfl,hk 1 _ (by omega) rfl,hk 2 _ (by omega) rfl⟩
theorem span_free {w:World} {nb:Nat} {Al:Option Addr} {n cl:Nat} {vs vo:Value} {s:NS} (h:NE w nb Al n cl vs vo s) {g:Nat} (hg:vs.ownBlock=some g) (k:Nat):w.frozen? ⟨g,k,none⟩=false:=by
 rcases h.sp.2 with ⟨rfl,_⟩|⟨g',cap,cur,rfl,hbg,hh,_⟩
 ·cases hg
 ·have:g'=g:=by injection hg
  subst this
  exact frozen_blk hh k
theorem NE.quiet {w w':World} {nb:Nat} {Al:Option Addr} {n cl:Nat} {vs vo:Value} {s:NS} (h:NE w nb Al n cl vs vo s) (ho:Only [] w w'):NE w' nb Al n cl vs vo s :=
 ⟨(ho.block nb (blk_lt h.blk) (by simp)).trans h.blk,own_only3 h.sp ho (by simp),own_only3 h.op ho (by simp),h.apart⟩
theorem NW.quiet {w w':World} {nb:Nat} {vs vo:Value} (ho:Only [] w w'):NW w w' nb vs vo vs vo:=⟨ho.more (by simp),Lies.refl _ _,Lies.refl _ _⟩
theorem NPost.quiet {w w':World} {nb:Nat} {Al:Option Addr} {n cl:Nat} {vs vo:Value} {s:NS} (h:NE w nb Al n cl vs vo s) (ho:Only [] w w') (k:Nat):NPost w nb Al n cl vs vo s k (.returned (.int .i64 (k:Int))) w' :=
 ⟨vs,vo,rfl,h.quiet ho,NW.quiet ho⟩
theorem IL.keep {w w':World} {Al:Option Addr} {n:Nat} {xs:List (Int×Int×Int×Int×Value)} {cs:List Int} (h:IL w Al n xs cs) (ho:Only [] w w'):IL w' Al n xs cs :=
 ⟨(h.reads.below (ho.below (Nat.le_refl _) (by simp))).more ho.size,h.len,h.codes,h.bd,h.one⟩
set_option maxHeartbeats 1600000 in
theorem other_any (nb:Nat) (Al:Option Addr) (n cl:Nat) (vs vo:Value) (s:NS) (i:Nat) (w:World) (xs:List (Int×Int×Int×Int×Value)) (cs:List Int) (h:Hid (NE w nb Al n cl vs vo s)) (hI:Hid (IL w Al n xs cs)) (hInv:Hid (NInv cs i s)) (h64:s.opn.length≤64) (hl:s.spans.length≤1000000) (hi:i<n) (hn:n≤1000000)
  (s':NS) (k:Nat) (hs':Hid ((match s.opn.getLast? with
  | none=>(4,s)
  | some t=>if codeN cs (spanN s t).1=4∧(spanN s t).2.1=-1 then (0,{ s with spans:=s.spans.set t ((spanN s t).1,(i:Int),(spanN s t).2.2) })else (4,s))=(k,s'))) :
  Calls Tryz.prog 72 #[.pointer (some ⟨nb,0,none⟩),.int .i64 i] w (NPost w nb Al n cl vs vo s' k):=by
 cases hlast:s.opn.getLast? with
 | none =>
  have h0:=hs'.out
  rw[hlast]at h0
  simp only[Prod.mk.injEq]at h0
  obtain⟨rfl,rfl⟩:=h0
  have hnil:s.opn=[]:=List.getLast?_eq_none_iff.1 hlast
  have HT:=hide (top_none nb Al n cl vs vo s w h hnil)
  clear hs' hlast hnil
  go_enter Tryz.func72,Tryz.ntmps72
  go_wp2_with fail
  refine HT.out.mono ?_;rintro e w1 ⟨rfl,ho⟩
  have hfin:∀N,Hid (NPost w nb Al n cl vs vo s 4 (.returned (.int .i64 4)) (w1.drewN N)):=fun N=>NPost.quiet h.out (ho.out.trans (Only.drewN [] w1 N)) 4
  go_wp2_with fail
  go_quiet (fail)
  rename_i nq
  have F:=hfin nq
  clear hfin
  go_wp2_with fail
  go_ret
  exact F.out
 | some t =>
  have h0:=hs'.out
  rw[hlast]at h0
  simp only at h0
  have hl':=hide hlast;clear hlast hs'
  have htl:=hInv.out.olt t (getLast_mem hl'.out)
  have HT:=hide (top_some nb Al n cl vs vo s t w h hl' h64 htl hl)
  obtain⟨x,hx⟩:∃x,spanN s t=x:=⟨_,rfl⟩
  obtain⟨b0,el,en⟩:=x
  have hst:s.spans[t]?=some (b0,el,en):=by rw[←hx];unfold spanN;rw[List.getD_eq_getElem?_getD,List.getElem?_eq_getElem htl];rfl
  obtain⟨hb1,hb2,hb3⟩:=hInv.out.beg t _ hst
  have hel:=hInv.out.els t _ hst
  simp only at hb1 hb2 hb3 hel
  rw[hx]at h0
  simp only at h0
  obtain⟨b,rfl⟩:∃b:Nat,b0=b:=⟨b0.toNat,by omega⟩
  have hbi:b<n:=by omega
  have hel1:-1≤el:=by omega
  have hel2:el≤1000000:=by omega
  clear hel hst
  have HX:=hide hx;clear hx
  have H0:=hide h0;clear h0
  clear hl'
  go_enter Tryz.func72,Tryz.ntmps72
  go_wp2_with fail
  refine HT.out.mono ?_;rintro e w1 ⟨g,rfl,hg,ho⟩
  have h1:=hide (h.out.quiet ho.out)
  obtain⟨d0,d1,d2⟩:=span_cells h1.out hg.out htl
  rw[HX.out]at d0 d1 d2
  simp only at d0 d1 d2
  obtain⟨ad,c,_,_,_,_,rfl,hc,_,i0,_,_,_,_,hc1,hc2⟩:=(hI.out.keep ho.out).code hbi
  have hcode:codeN cs (b:Int)=c:=by
   unfold codeN
   rw[Int.toNat_natCast,List.getD_eq_getElem?_getD,hc]
   rfl
  have HC:=hide hcode;clear hcode hc
  have hfin:∀N,Hid (NPost w nb (some ad) n cl vs vo s 4 (.returned (.int .i64 4)) (w1.drewN N)):=fun N=>NPost.quiet h.out (ho.out.trans (Only.drewN [] w1 N)) 4
  have e0:=cell_blk h1.out.blk 0
  simp at e0
  by_cases h4:c=4
  ·subst h4
   by_cases hel3:el=-1
   ·subst hel3
    have h00:=H0.out
    rw[if_pos ⟨HC.out,rfl⟩]at h00
    simp only[Prod.mk.injEq]at h00
    obtain⟨rfl,rfl⟩:=h00
    clear hfin
    go_wp2_with fail
    go_quiet (fail)
    rename_i nq
    have h2:=hide (h1.out.quiet (Only.drewN [] w1 nq))
    have ho2:=hide (ho.out.trans (Only.drewN [] w1 nq))
    generalize w1.drewN nq=w2 at h2 ho2 ⊢
    obtain⟨p0,p1,p2⟩:=span_cells h2.out hg.out htl
    have zf:=span_free h2.out hg.out (t*3+1)
    rw[HX.out]at p1
    simp only at p1
    clear p0 p2 d0 d1 d2 e0 i0
    go_wp2_with fail
    go_ret
    obtain⟨q1,q2⟩:=h2.out.set_span (j:=1) hg.out htl (by omega) ((b:Int),(i:Int),en) (i:Int) (by rw[HX.out];rfl)
    exact⟨vs,vo,rfl,q1,(NW.quiet ho2.out).trans q2⟩
   ·have h00:=H0.out
    rw[if_neg (fun hh=>hel3 hh.2)]at h00
    simp only[Prod.mk.injEq]at h00
    obtain⟨rfl,rfl⟩:=h00
    have f1:(el==-1)=false:=by simpa using hel3
    have f2:(el != -1)=true:=by simpa using hel3
    clear hel3
    go_wp2_with fail
    go_quiet (fail)
    rename_i nq
    have F:=hfin nq
    clear hfin
    go_wp2_with fail
    go_ret
    exact F.out
  ·have h00:=H0.out
   rw[if_neg (fun hh=>h4 (HC.out.symm.trans hh.1))]at h00
   simp only[Prod.mk.injEq]at h00
   obtain⟨rfl,rfl⟩:=h00
   have f1:(c==4)=false:=by simpa using h4
   have f2:(c != 4)=true:=by simpa using h4
   clear h4
   go_wp2_with fail
   go_quiet (fail)
   rename_i nq
   have F:=hfin nq
   clear hfin
   go_wp2_with fail
   go_ret
   exact F.out
theorem NE.pop {w:World} {nb:Nat} {Al:Option Addr} {n cl:Nat} {vs:Value} {A:Option Addr} {m c:Nat} {s:NS} (h:NE w nb Al n cl vs (.slice A (m+1) c) s) (hm:s.opn.length=m+1) :
  NE (w.setCell ⟨nb,2,none⟩ (.slice A m c)) nb Al n cl vs (.slice A m c) { s with opn:=s.opn.dropLast }∧NW w (w.setCell ⟨nb,2,none⟩ (.slice A m c)) nb vs (.slice A (m+1) c) vs (.slice A m c):=by
 have ho:Only [nb] w (w.setCell ⟨nb,2,none⟩ (.slice A m c)):=Only.setCell w (p:=⟨nb,2,none⟩) (by simp) _
 have hb:(Value.slice A m c).ownBlock=(Value.slice A (m+1) c).ownBlock:=by cases A<;>rfl
 refine⟨⟨by rw[setCell_blk h.blk];rfl,own_only3 h.sp ho (fun g hg=>by have:=own_ge h.sp g hg;simp;omega),?_,fun g hg=>by rw[hb];exact h.apart g hg⟩,⟨ho.more (by simp),Lies.refl _ _,.inl hb⟩⟩
 have h1:=own_short (own_cast h.op hm rfl)
 refine own_cast (own_only3 h1 ho (fun g hg=>by rw[hb]at hg;have:=own_ge h.op g hg;simp;omega)) (by simp[hm]) ?_
 rw[Nat.mul_one]
 have e:∀l:List Nat,l.flatMap placeD=l.map fun (x:Nat)=>Value.int .i64 (x:Int):=by
  intro l;induction l with
  | nil=>rfl
  | cons a r ih=>rw[List.flatMap_cons,ih];rfl
 rw[e,e,←List.map_take,List.dropLast_eq_take,hm,Nat.add_sub_cancel]
def NPost0 (w:World) (nb:Nat) (Al:Option Addr) (n cl:Nat) (vs vo:Value) (s':NS) (e:Ending) (w':World):Prop :=
 ∃vs' vo',e=.returned (.tuple #[])∧Hid (NE w' nb Al n cl vs' vo' s')∧Hid (NW w w' nb vs vo vs' vo')
set_option maxHeartbeats 1600000 in
theorem end_any (nb:Nat) (Al:Option Addr) (n cl:Nat) (vs vo:Value) (s:NS) (i:Nat) (w:World) (cs:List Int) (h:Hid (NE w nb Al n cl vs vo s)) (hInv:Hid (NInv cs i s)) (h64:s.opn.length≤64) (hl:s.spans.length≤1000000) (hi:i<n) (hn:n≤1000000)
  (s':NS) (hs':Hid ((match s.opn.getLast? with
  | none=>{ s with closed:=true }
  | some t=>{ s with spans:=s.spans.set t ((spanN s t).1,(spanN s t).2.1,(i:Int)),opn:=s.opn.dropLast })=s')) :
  Calls Tryz.prog 73 #[.pointer (some ⟨nb,0,none⟩),.int .i64 i] w (NPost0 w nb Al n cl vs vo s'):=by
 cases hlast:s.opn.getLast? with
 | none =>
  have h0:=hs'.out
  rw[hlast]at h0
  simp only at h0
  subst h0
  have hnil:s.opn=[]:=List.getLast?_eq_none_iff.1 hlast
  have HT:=hide (top_none nb Al n cl vs vo s w h hnil)
  clear hs' hlast hnil
  go_enter Tryz.func73,Tryz.ntmps73
  go_wp2_with fail
  refine HT.out.mono ?_;rintro e w1 ⟨rfl,ho⟩
  have h1:=hide (h.out.quiet ho.out)
  have d3:=cell_blk h1.out.blk 3
  simp at d3
  have z3:=frozen_blk h1.out.blk 3
  go_wp2_with fail
  go_end0
  exact⟨vs,vo,rfl,h1.out.set_closed true,(NW.quiet ho.out).trans (NW.cell nb 3 _ _ _)⟩
 | some t =>
  have h0:=hs'.out
  rw[hlast]at h0
  simp only at h0
  subst h0
  have hl':=hide hlast;clear hlast hs'
  have htl:=hInv.out.olt t (getLast_mem hl'.out)
  have HT:=hide (top_some nb Al n cl vs vo s t w h hl' h64 htl hl)
  obtain⟨m,hm⟩:∃m,s.opn.length=m+1:=by
   cases hh:s.opn with
   | nil=>have:=hl'.out;rw[hh]at this;cases this
   | cons a r=>exact⟨r.length,rfl⟩
  obtain⟨Ao,co,rfl,ho1,ho2⟩:=own_form h.out.op
  rw[hm]at h ho1 h64 ⊢
  have HM:=hide hm;clear hm hl'
  obtain⟨x,hx⟩:∃x,spanN s t=x:=⟨_,rfl⟩
  obtain⟨b0,el,en⟩:=x
  rw[hx]
  have HX:=hide hx;clear hx
  go_enter Tryz.func73,Tryz.ntmps73
  go_wp2_with fail
  refine HT.out.mono ?_;rintro e w1 ⟨g,rfl,hg,ho⟩
  have h1:=hide (h.out.quiet ho.out)
  obtain⟨d0,d1,d2⟩:=span_cells h1.out hg.out htl
  have zf:=span_free h1.out hg.out (t*3+2)
  go_wp2_with fail
  obtain⟨q1,q2⟩:=h1.out.set_span (j:=2) hg.out htl (by omega) (b0,el,(i:Int)) (i:Int) (by rw[HX.out];rfl)
  generalize w1.setCell ⟨g,t*3+2,none⟩ (.int .i64 (i:Int))=w2 at q1 q2 ⊢
  have Q1:=hide q1;clear q1
  have Q2:=hide q2;clear q2
  clear d0 d1 d2 zf
  have e2:=cell_blk Q1.out.blk 2
  simp at e2
  have z2:=frozen_blk Q1.out.blk 2
  have hs1:IntKind.i64.wrap (((m+1:Nat):Int)-1)=m:=by rw[IntWalk.i64_in _ (by omega)];omega
  obtain⟨q3,q4⟩:=Q1.out.pop (m:=m) HM.out
  have F:Hid (NPost0 w nb Al n cl vs (.slice Ao (m+1) co) { s with spans:=s.spans.set t (b0,el,(i:Int)),opn:=s.opn.dropLast } (.returned (.tuple #[])) (w2.setCell ⟨nb,2,none⟩ (.slice Ao m co)).drew):=by
   have h6:=((NW.quiet (nb:=nb) (vs:=vs) (vo:=.slice Ao (m+1) co) ho.out).trans Q2.out).trans q4
   exact⟨vs,.slice Ao m co,rfl,⟨q3.blk,q3.sp,q3.op,q3.apart⟩,⟨⟨h6.only.os,h6.only.tape,h6.only.output,h6.only.size,h6.only.block⟩,h6.ls,h6.lo⟩⟩
  clear q3 q4
  go_region
  all_goals
   go_wp2_with fail
   go_end0
   exact F.out
structure NSz (i:Nat) (s:NS):Prop where
 o:s.opn.length≤64
 d:s.deep≤64
 sp:s.spans.length≤i
theorem NSz.step {cs:List Int} {c:Int} {i:Nat} {s:NS} (h:NSz i s):NSz (i+1) (stepN cs c i s).2:=by
 obtain⟨h1,h2,h3⟩:=h
 unfold stepN
 split
 ·exact⟨h1,h2,by simp only;omega⟩
 ·split
  ·split
   ·exact⟨h1,h2,by simp only;omega⟩
   ·exact⟨by simp;omega,by simp only;omega,by simp;omega⟩
  ·split
   ·split
    ·exact⟨h1,h2,by simp only;omega⟩
    ·split
     ·exact⟨h1,h2,by simp;omega⟩
     ·exact⟨h1,h2,by simp only;omega⟩
   ·split
    ·split
     ·exact⟨h1,h2,by simp only;omega⟩
     ·exact⟨by simp;omega,h2,by simp;omega⟩
    ·exact⟨h1,h2,by simp only;omega⟩
set_option maxHeartbeats 1600000 in
theorem step_any (nb:Nat) (Al:Option Addr) (n cl:Nat) (vs vo:Value) (s:NS) (i:Nat) (c:Int) (w:World) (xs:List (Int×Int×Int×Int×Value)) (cs:List Int) (h:Hid (NE w nb Al n cl vs vo s)) (hI:Hid (IL w Al n xs cs)) (hInv:Hid (NInv cs i s)) (hS:Hid (NSz i s)) (hi:i<n) (hn:n≤900000) (hcs:Hid (cs[i]?=some c)) :
  Calls Tryz.prog 45 #[.pointer (some ⟨nb,0,none⟩),.int .i64 i] w (NPost w nb Al n cl vs vo (stepN cs c i s).2 (stepN cs c i s).1):=by
 have hs1:=hS.out.o
 have hs2:=hS.out.d
 have hs3:=hS.out.sp
 obtain⟨ad,c',u1,u2,u3,u4,rfl,hc,hv,i0,i1,i2,i3,i4,hc1,hc2⟩:=hI.out.code hi
 have hcc:c'=c:=by rw[hcs.out]at hc;injection hc with e;exact e.symm
 subst hcc
 clear hc
 have e0:=cell_blk h.out.blk 0
 have e3:=cell_blk h.out.blk 3
 simp at e0 e3
 by_cases hcl:s.closed=true
 ·have hE:stepN cs c' i s=(4,s):=by unfold stepN;rw[if_pos hcl]
  rw[hE]
  rw[hcl]at e3
  have F:=hide (NPost.quiet h.out (Only.refl [] w) 4)
  clear hE hcl
  go_enter Tryz.func45,Tryz.ntmps45
  go_wp2_with fail
  go_ret
  exact F.out
 ·have hcl':s.closed=false:=by simpa using hcl
  rw[hcl']at e3
  have HO:=hide (opens_any c' u1 u2 u3 u4)
  by_cases ho:opensC c'
  ·have hd:decide (opensC c')=true:=by simpa using ho
   rw[hd]at HO
   by_cases h64:s.opn.length=64
   ·have hE:stepN cs c' i s=(15,s):=by unfold stepN;rw[if_neg hcl,if_pos ho,if_pos h64]
    rw[hE]
    have H64:=hide h64
    clear hE hcl hcl' ho hd h64
    go_enter Tryz.func45,Tryz.ntmps45
    go_wp2_with fail
    refine(HO.out _ hv hc1 hc2).mono ?_;rintro e w1 ⟨rfl,ho1⟩
    go_wp2_with fail
    refine(begin_full nb _ n cl vs vo s i w1 (hide (h.out.quiet ho1.out)) H64.out).mono ?_;rintro e w2 ⟨vs',vo',rfl,k1,k2⟩
    go_wp2_with fail
    go_ret
    exact⟨vs',vo',rfl,k1,(NW.quiet ho1.out).trans k2.out⟩
   ·have hE:stepN cs c' i s=(0,{ spans:=s.spans++[((i:Int),-1,-1)],opn:=s.opn++[s.spans.length],closed:=s.closed,deep:=max s.deep (s.opn.length+1) }):=by unfold stepN;rw[if_neg hcl,if_pos ho,if_neg h64,hcl']
    rw[hE]
    clear hE hcl hcl' ho hd
    go_enter Tryz.func45,Tryz.ntmps45
    go_wp2_with fail
    refine(HO.out _ hv hc1 hc2).mono ?_;rintro e w1 ⟨rfl,ho1⟩
    go_wp2_with fail
    refine(begin_ok nb _ n cl vs vo s i w1 (hide (h.out.quiet ho1.out)) (by omega) (by omega) hs2 (by omega)).mono ?_;rintro e w2 ⟨vs',vo',rfl,k1,k2⟩
    go_wp2_with fail
    go_ret
    exact⟨vs',vo',rfl,k1,(NW.quiet ho1.out).trans k2.out⟩
  ·have hd:decide (opensC c')=false:=by simpa using ho
   rw[hd]at HO
   by_cases h5:c'=5
   ·obtain⟨k,s',hE⟩:∃k s',stepN cs c' i s=(k,s'):=⟨_,_,rfl⟩
    have hE':=hE
    rw[hE]
    unfold stepN at hE'
    rw[if_neg hcl,if_neg ho,if_pos h5]at hE'
    have HE:=hide hE'
    subst h5
    clear hE hE' hcl hcl' ho hd
    go_enter Tryz.func45,Tryz.ntmps45
    go_wp2_with fail
    refine(HO.out _ hv hc1 hc2).mono ?_;rintro e w1 ⟨rfl,ho1⟩
    have h1:=hide (h.out.quiet ho1.out)
    have I1:=hide (hI.out.keep ho1.out)
    obtain⟨ad',c2,_,_,_,_,hade,hcx,_,i0',_,_,_,_,_,_⟩:=I1.out.code hi
    injection hade with hade
    subst hade
    have:c2=5:=by rw[hcs.out]at hcx;injection hcx with e;exact e.symm
    subst this
    have e0':=cell_blk h1.out.blk 0
    simp at e0'
    clear hcx i0 i1 i2 i3 i4 e0 e3
    go_wp2_with fail
    refine(other_any nb _ n cl vs vo s i w1 xs cs h1 I1 hInv hs1 (by omega) hi (by omega) s' k HE).mono ?_;rintro e w2 ⟨vs',vo',rfl,k1,k2⟩
    go_wp2_with fail
    go_ret
    exact⟨vs',vo',rfl,k1,(NW.quiet ho1.out).trans k2.out⟩
   ·have f5:(c'==5)=false:=by simpa using h5
    by_cases h11:c'=11
    ·obtain⟨s',hE⟩:∃s',stepN cs c' i s=(0,s'):=by
      unfold stepN
      rw[if_neg hcl,if_neg ho,if_neg h5,if_pos h11]
      split<;>exact⟨_,rfl⟩
     have hE':=hE
     rw[hE]
     unfold stepN at hE'
     rw[if_neg hcl,if_neg ho,if_neg h5,if_pos h11]at hE'
     have HE:Hid ((match s.opn.getLast? with
       | none=>{ s with closed:=true }
       | some t=>{ s with spans:=s.spans.set t ((spanN s t).1,(spanN s t).2.1,(i:Int)),opn:=s.opn.dropLast })=s'):=by
      show _=_
      revert hE'
      cases s.opn.getLast? with
      | none=>intro hE';exact(Prod.mk.inj hE').2
      | some t=>intro hE';exact(Prod.mk.inj hE').2
     subst h11
     clear hE hE' hcl hcl' ho hd h5
     go_enter Tryz.func45,Tryz.ntmps45
     go_wp2_with fail
     refine(HO.out _ hv hc1 hc2).mono ?_;rintro e w1 ⟨rfl,ho1⟩
     have h1:=hide (h.out.quiet ho1.out)
     have I1:=hide (hI.out.keep ho1.out)
     obtain⟨ad',c2,_,_,_,_,hade,hcx,_,i0',_,_,_,_,_,_⟩:=I1.out.code hi
     injection hade with hade
     subst hade
     have:c2=11:=by rw[hcs.out]at hcx;injection hcx with e;exact e.symm
     subst this
     have e0':=cell_blk h1.out.blk 0
     simp at e0'
     clear hcx i0 i1 i2 i3 i4 e0 e3
     go_wp2_with fail
     refine(end_any nb _ n cl vs vo s i w1 cs h1 hInv hs1 (by omega) hi (by omega) s' HE).mono ?_;rintro e w2 ⟨vs',vo',rfl,k1,k2⟩
     go_wp2_with fail
     go_ret
     exact⟨vs',vo',rfl,k1,(NW.quiet ho1.out).trans k2.out⟩
    ·have hE:stepN cs c' i s=(0,s):=by unfold stepN;rw[if_neg hcl,if_neg ho,if_neg h5,if_neg h11]
     rw[hE]
     have f11:(c'==11)=false:=by simpa using h11
     clear hE hcl hcl' ho hd h5 h11
     go_enter Tryz.func45,Tryz.ntmps45
     go_wp2_with fail
     refine(HO.out _ hv hc1 hc2).mono ?_;rintro e w1 ⟨rfl,ho1⟩
     have h1:=hide (h.out.quiet ho1.out)
     have I1:=hide (hI.out.keep ho1.out)
     obtain⟨ad',c2,_,_,_,_,hade,hcx,_,i0',_,_,_,_,_,_⟩:=I1.out.code hi
     injection hade with hade
     subst hade
     have:c2=c':=by rw[hcs.out]at hcx;injection hcx with e;exact e.symm
     subst this
     have e0':=cell_blk h1.out.blk 0
     simp at e0'
     clear hcx i0 i1 i2 i3 i4 e0 e3
     have F:=hide (NPost.quiet h.out ho1.out 0)
     go_wp2_with fail
     go_ret
     exact F.out
end Go.Proofs.YtomppgohoplemaaGreat
