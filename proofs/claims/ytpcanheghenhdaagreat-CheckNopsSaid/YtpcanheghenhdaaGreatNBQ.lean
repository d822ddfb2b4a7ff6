import Derived.Test.YtpcanheghenhdaaGreatNAL
import Derived.Test.YtpcanheghenhdaaGreatNAB
import Derived.IntWalk
import Derived.Test.YtpcanheghenhdaaGreatNAJ
import Derived.Deep.QuietTactic
import Derived.BigQuiet
set_option linter.unusedVariables false
namespace Go.Proofs.YtpcanheghenhdaaGreat
open Go.RowKit
theorem rspan_elem:IsElem Tryz.prog 124 199 3 24:=IsElem.mk' Tryz.underlying124 (z:=.agg #[.int .i64 0,.int .i64 0,.int .i64 0]) (by kernel_rfl) rfl (by omega)
def BlkPost (w:World) (q:Nat×Nat) (at_:Nat) (e:Ending) (w':World):Prop :=
 ∃(A:Option Addr) (m c:Nat) (us:List Value),e=.returned (.tuple #[.int .i64 (q.1:Int),.slice A m c,.int .i64 (q.2:Int)])∧Hid (w'.ownsRow w.heap.size 199 3 (.slice A m c) m us)∧Hid (∀u∈us,u.oneCell'=true)∧Hid (Below w.heap.size w w')∧m≤q.1-at_
theorem IL.code1 {w:World} {Al:Option Addr} {n:Nat} {xs:List (Int×Int×Int×Int×Value)} {cs:List Int} (h:IL w Al n xs cs) {i:Nat} (hi:i<n) :
  ∃(ad:Addr) (c:Int),Al=some ad∧Hid (cs[i]?=some c)∧w.cell? (ad.add (i*5))=some (.int .i64 c):=by
 obtain⟨ad,c,a,b,al,v,h1,h2,_,h3,_⟩:=h.code hi
 exact⟨ad,c,h1,h2,h3⟩
theorem IL.stay {w w':World} {Al:Option Addr} {n:Nat} {xs:List (Int×Int×Int×Int×Value)} {cs:List Int} (h:IL w Al n xs cs) (hb:Below w.heap.size w w'):IL w' Al n xs cs :=
 ⟨(h.reads.below hb).more hb.size,h.len,h.codes,h.bd,h.one⟩
theorem blockP_none {cs:List Int} {f at_ deep:Nat} (h:cs[at_]?=none):blockP cs (f+1) at_ deep=(at_,0):=by rw[blockP];simp only[h]
theorem blockP_stop {cs:List Int} {f at_ deep:Nat} {c:Int} (h:cs[at_]?=some c) (hc:c=11∨c=5):blockP cs (f+1) at_ deep=(at_,0):=by rw[blockP];simp only[h];rw[if_pos hc]
theorem blockP_skip {cs:List Int} {f at_ deep:Nat} {c:Int} (h:cs[at_]?=some c) (hc:¬(c=11∨c=5)) (h2:c<2∨4<c):blockP cs (f+1) at_ deep=blockP cs f (at_+1) deep:=by rw[blockP];simp only[h];rw[if_neg hc,if_pos h2]
theorem blockP_deep {cs:List Int} {f at_:Nat} {c:Int} (h:cs[at_]?=some c) (hc:¬(c=11∨c=5)) (h2:¬(c<2∨4<c)):blockP cs (f+1) at_ 64=(at_,15):=by rw[blockP];simp only[h];rw[if_neg hc,if_neg h2];simp
theorem blockP_open {cs:List Int} {f at_ deep:Nat} {c:Int} (h:cs[at_]?=some c) (hc:¬(c=11∨c=5)) (h2:¬(c<2∨4<c)) (h3:deep≠64) (q:Nat×Nat) (hq:blockP cs f (at_+1) (deep+1)=q) :
  blockP cs (f+1) at_ deep=if q.2=0∧cs[q.1]?=some 5 then
    if c≠4 then (q.1,4)
    else
     if (blockP cs f (q.1+1) (deep+1)).2=0∧cs[(blockP cs f (q.1+1) (deep+1)).1]?=some 5 then ((blockP cs f (q.1+1) (deep+1)).1,4)
     else if (blockP cs f (q.1+1) (deep+1)).2≠0 then blockP cs f (q.1+1) (deep+1)
     else if (blockP cs f (q.1+1) (deep+1)).1=cs.length then ((blockP cs f (q.1+1) (deep+1)).1,4)else blockP cs f ((blockP cs f (q.1+1) (deep+1)).1+1) deep
   else if q.2≠0 then q
   else if q.1=cs.length then (q.1,4)else blockP cs f (q.1+1) deep:=by
 subst hq
 rw[blockP]
 simp only[h]
 rw[if_neg hc,if_neg h2,if_neg h3]
set_option maxRecDepth 100000 in
set_option maxHeartbeats 6400000 in
theorem refBlock_any (Al:Option Addr) (n cl:Nat) (xs:List (Int×Int×Int×Int×Value)) (cs:List Int) (hn:n≤100000):∀(f at_ deep:Nat) (w:World),Hid (IL w Al n xs cs)→cs.length<at_+f→at_≤cs.length→deep≤64 →
  Calls Tryz.prog 61 #[.slice Al n cl,.int .i64 (at_:Int),.int .i64 (deep:Int)] w (BlkPost w (blockP cs f at_ deep) at_):=by
 intro f
 induction f using Nat.strongRecOn with
 | ind f ih =>
 intro at_ deep w hI hf hat hd
 have hcn:cs.length=n:=by rw[←hI.out.codes,List.length_map,hI.out.len]
 have IH:Hid (∀(k:Nat),k<f→∀(a d:Nat) (W:World),Hid (IL W Al n xs cs)→cs.length<a+k→a≤cs.length→d≤64→Calls Tryz.prog 61 #[.slice Al n cl,.int .i64 (a:Int),.int .i64 (d:Int)] W (BlkPost W (blockP cs k a d) a)):=fun k hk a d W h1 h2 h3 h4=>ih k hk a d W h1 h2 h3 h4
 clear ih
 obtain⟨R,hR⟩:∃R,blockP cs f at_ deep=R:=⟨_,rfl⟩
 rw[hR]
 have HR:=hide hR;clear hR
 have HCN:=hide hcn;clear hcn
 have hfn:n<at_+f:=by rw[←HCN.out];exact hf
 have hatn:at_≤n:=by rw[←HCN.out];exact hat
 clear hf hat
 obtain⟨base,hbase⟩:∃b,w.heap.size=b:=⟨_,rfl⟩
 have HB:=hide hbase;clear hbase
 go_enter Tryz.func61,Tryz.ntmps61
 go_wp2_with fail
 go_loopw [1,9] (fun a o w1=>∃(a' k m:Nat) (us:List Value),a=.int .i64 (a':Int)∧at_≤a'∧a'≤n∧n<a'+k∧k≤f∧Hid (blockP cs k a' deep=R)∧Hid (w1.ownsRow base 199 3 o m us)∧Hid (∀u∈us,u.oneCell'=true)∧m≤a'-at_∧Hid (Below base w w1)∧base≤w1.heap.size) (fun a _ _=>n-(intOf a).toNat)
 case atStart=>exact⟨at_,f,0,[],rfl,by omega,by omega,hfn,by omega,HR,own_nil _ _ _ _,(by show ∀_,_;simp),by omega,Below.refl _ _,by rw[HB.out];omega⟩
 case round =>
  obtain⟨a,k0,m,us,rfl,ha1,ha2,hk1,hk2,hk,ho,hu,hm,hb,hsz⟩:=hrel
  obtain⟨Ao,co,rfl,hco1,hco2⟩:=own_form ho.out
  obtain⟨k,rfl⟩:∃k,k0=k+1:=⟨k0-1,by omega⟩
  have hIr:=hide (hI.out.stay (w':=wr) (by rw[HB.out];exact hb.out))
  by_cases hlt:a<n
  ·obtain⟨ad,c,rfl,hc,hcell⟩:=hIr.out.code1 hlt
   have hcb:=hI.out.bd c (List.mem_of_getElem? hc.out)
   obtain⟨hcb1,hcb2⟩:=hcb
   by_cases hstop:c=11∨c=5
   ·have hr:R=(a,0):=by rw[←hk.out];exact blockP_stop hc.out hstop
    subst hr
    rcases hstop with rfl|rfl
    ·go_wp2_with fail
     go_ret3
     exact⟨Ao,m,co,us,rfl,by rw[HB.out];exact ho.out,hu,by rw[HB.out];exact hb.out,hm⟩
    ·go_wp2_with fail
     go_ret3
     exact⟨Ao,m,co,us,rfl,by rw[HB.out];exact ho.out,hu,by rw[HB.out];exact hb.out,hm⟩
   ·have f11:(c==11)=false:=by simp;omega
    have f5:(c==5)=false:=by simp;omega
    have HSTOP:=hide hstop
    by_cases hskip:c<2∨4<c
    ·have hk':=hide ((blockP_skip (f:=k) (deep:=deep) hc.out HSTOP.out hskip).symm.trans hk.out)
     by_cases h2:c<2
     ·have t1:decide (c<2)=true:=by simpa using h2
      clear hskip hstop h2 HSTOP
      go_wp2_with fail
      go_roundw
      case rel=>exact⟨a+1,k,m,us,by go_num,by omega,by omega,by omega,by omega,hk',ho,hu,by omega,hb,hsz⟩
      case measure=>simp[intOf]<;>omega
     ·have t1:decide (c<2)=false:=by simpa using h2
      have t2:decide (4<c)=true:=by simp;omega
      clear hskip hstop h2 HSTOP
      go_wp2_with fail
      go_roundw
      case rel=>exact⟨a+1,k,m,us,by go_num,by omega,by omega,by omega,by omega,hk',ho,hu,by omega,hb,hsz⟩
      case measure=>simp[intOf]<;>omega
    ·have t1:decide (c<2)=false:=by simp;omega
     have t2:decide (4<c)=false:=by simp;omega
     have HSKIP:=hide hskip
     by_cases h64:deep=64
     ·subst h64
      have hr:R=(a,15):=by rw[←hk.out];exact blockP_deep hc.out HSTOP.out HSKIP.out
      subst hr
      clear hskip hstop
      go_wp2_with fail
      go_ret3
      exact⟨none,0,0,[],rfl,own_nil _ _ _ _,(by show ∀_,_;simp),by rw[HB.out];exact hb.out,by omega⟩
     ·have f64:((deep:Int)==64)=false:=by simp;omega
      have h64':deep+1≤64:=by omega
      obtain⟨q,hq⟩:∃q,blockP cs k (a+1) (deep+1)=q:=⟨_,rfl⟩
      have hopen:=hide ((blockP_open (f:=k) hc.out HSTOP.out HSKIP.out h64 q hq).symm.trans hk.out)
      have hqg:=blockP_ge cs k (a+1) (deep+1)
      have hql:=blockP_le cs k (a+1) (deep+1) (by rw[HCN.out];omega)
      rw[hq]at hqg hql
      rw[HCN.out]at hql
      clear hskip hstop h64 HSTOP HSKIP hk
      obtain⟨gb,hgb⟩:∃gb,wr.heap.size=gb:=⟨_,rfl⟩
      obtain⟨W1,hW1⟩:∃W1,wr.alloc (.cells #[.int .i64 (a:Int),.int .i64 (-1),.int .i64 (-1)] 199)=W1:=⟨_,rfl⟩
      have hbl1:Below gb wr W1:=by rw[←hW1,←hgb];exact(Below.refl _ _).alloc (Nat.le_refl _) _
      have hblk1:Hid (W1.heap[gb]?=some (.cells #[.int .i64 (a:Int),.int .i64 (-1),.int .i64 (-1)] 199 (0,0))):=by show _=_;rw[←hW1,←hgb];exact heap_alloc_new wr _
      have hI1:Hid (IL W1 (some ad) n xs cs):=hIr.out.stay (by rw[hgb];exact hbl1)
      have ho1:=hide (own_only3 ho.out (Only.of_below (S:=[]) (by rw[hgb];exact hbl1)) (by simp))
      have hb1:Hid (Below base w W1):=hb.out.trans (hbl1.mono (by omega))
      have hgbase:base≤gb:=by omega
      have hlto:Hid (∀g,(Value.slice Ao m co).ownBlock=some g→g<gb):=fun g hg=>by have:=own_lt ho.out g hg;omega
      have HIH:=hide (IH.out k (by omega) (a+1) (deep+1) W1 hI1 (by rw[HCN.out];omega) (by rw[HCN.out];omega) h64')
      rw[hq]at HIH
      have HQ:=hide hq;clear hq
      have HW1:=hide hW1;have HGB:=hide hgb
      clear hW1 hgb hbl1
      go_wp2_with fail
      rw[HW1.out,HGB.out]
      refine HIH.out.mono ?_;rintro e w2 ⟨A2,m2,c2,us2,rfl,o2,u2,b2,l2⟩
      have hblk2:=hide ((b2.out.block gb (blk_lt hblk1.out)).trans hblk1.out)
      have hg2:=blk_lt hblk2.out
      have hI2:=hide (hI1.out.stay b2.out)
      have ho2:=hide (own_only3 ho1.out (Only.of_below (S:=[]) b2.out) (by simp))
      have hb2:Hid (Below base w w2):=hb1.out.trans (b2.out.mono (by have:=blk_lt hblk1.out;omega))
      have hin2:Hid (∀g,(Value.slice A2 m2 c2).ownBlock=some g→gb<g):=fun g hg=>by have:=own_ge o2.out g hg;have:=blk_lt hblk1.out;omega
      by_cases hq5:q.2=0∧cs[q.1]?=some 5
      ·obtain⟨q0,q5⟩:=hq5
       have hqlt:q.1<n:=by rw[←HCN.out];exact(List.getElem?_eq_some_iff.1 q5).1
       have fq0:((q.2:Int)==0)=true:=by simp;omega
       obtain⟨ad2,c5,had2,hc5,hcell5⟩:=hI2.out.code1 hqlt
       injection had2 with had2
       subst had2
       have:c5=5:=by have:=hc5.out;rw[q5]at this;injection this with this;exact this.symm
       subst this
       have hop5:=hopen.out
       rw[if_pos ⟨q0,q5⟩]at hop5
       have HQ0:=hide q0;have HQ5:=hide q5
       clear q0 q5 hopen
       by_cases hc4:c=4
       ·rw[if_neg (fun x=>x hc4)]at hop5
        subst hc4
        obtain⟨p,hp⟩:∃p,blockP cs k (q.1+1) (deep+1)=p:=⟨_,rfl⟩
        rw[hp]at hop5
        have hpg:=blockP_ge cs k (q.1+1) (deep+1)
        have hpl:=blockP_le cs k (q.1+1) (deep+1) (by rw[HCN.out];omega)
        rw[hp]at hpg hpl
        rw[HCN.out]at hpl
        have HOP:=hide hop5;clear hop5
        have z2:=frozen_blk hblk2.out 1
        have s2:=cell_blk hblk2.out 1
        simp at s2
        obtain⟨W3,hW3⟩:∃W3,w2.setCell ⟨gb,1,none⟩ (.int .i64 (q.1:Int))=W3:=⟨_,rfl⟩
        have hs3:Only [gb] w2 W3:=by rw[←hW3];exact Only.setCell w2 (p:=⟨gb,1,none⟩) (by simp) _
        have hblk3:Hid (W3.heap[gb]?=some (.cells #[.int .i64 (a:Int),.int .i64 (q.1:Int),.int .i64 (-1)] 199 (0,0))):=by show _=_;rw[←hW3,setCell_blk hblk2.out];rfl
        have hb3:Hid (Below base w W3):=hb2.out.trans (hs3.below (Nat.le_trans hgbase (Nat.le_of_lt hg2)) (by simp;omega))
        have hI3:=hide (hI.out.stay (w':=W3) (by rw[HB.out];exact hb3.out))
        have ho3:=hide (own_only3 ho2.out hs3 (fun g hg=>by have:=hlto.out g hg;simp;omega))
        have hi3:=hide (own_only3 o2.out hs3 (fun g hg=>by have:=hin2.out g hg;simp;omega))
        have hlt3:gb<W3.heap.size:=blk_lt hblk3.out
        have HIH2:=hide (IH.out k (by omega) (q.1+1) (deep+1) W3 hI3 (by rw[HCN.out];omega) (by rw[HCN.out];omega) h64')
        rw[hp]at HIH2
        have HP:=hide hp;have HW3:=hide hW3
        clear hp hW3 hs3
        go_upto_region 17 with fail
        rw[HW3.out]
        go_wp2_with fail
        refine HIH2.out.mono ?_;rintro e w4 ⟨A4,m4,c4,us4,rfl,o4,u4,b4,l4⟩
        have hblk4:=hide ((b4.out.block gb hlt3).trans hblk3.out)
        have hb4:Hid (Below base w w4):=hb3.out.trans (b4.out.mono (by omega))
        have ho4:=hide (own_only3 ho3.out (Only.of_below (S:=[]) b4.out) (by simp))
        have hi4:=hide (own_only3 hi3.out (Only.of_below (S:=[]) b4.out) (by simp))
        have hr4:=hide (Reads.of_own o4.out)
        have hsz4:gb<w4.heap.size:=blk_lt hblk4.out
        have hroom4:Room m2 m4 24:=room_of (by omega) (by omega)
        have hbs1:W1.heap.size≤w4.heap.size:=by
         have h1:W3.heap.size=w2.heap.size:=by rw[←HW3.out];simp[World.setCell]
         have:=b4.out.size
         have:=b2.out.size
         omega
        go_upto_region 19 with (at_builtin;refine wpList_append_any rfl (.tmp 87) (.tmp 88) rfl W1.heap.size rspan_elem _ m2 us2 rfl hi4.out w4.heap.size A4 m4 c4 us4 rfl hr4.out u4.out hroom4 hbs1 ?_;intro v7 w7 ho7 hg7)
        have hb7:Hid (Below base w w7):=hb4.out.trans ((hg7.below hbs1 (own_ge hi4.out)).mono (by have:=blk_lt hblk1.out;omega))
        have hblk7:Hid (w7.heap[gb]?=_):=((hg7.below hbs1 (own_ge hi4.out)).block gb (blk_lt hblk1.out)).trans hblk4.out
        have ho7o:Hid (w7.ownsRow base 199 3 (.slice Ao m co) m us):=own_below ho4.out (hg7.below hbs1 (own_ge hi4.out)) (fun g hg=>by have:=hlto.out g hg;have:=blk_lt hblk1.out;omega)
        obtain⟨A7,c7,rfl,_,_⟩:=own_form ho7
        have hin7:Hid (∀g,(Value.slice A7 (m2+m4) c7).ownBlock=some g→gb<g):=fun g hg=>by have:=own_ge ho7 g hg;have:=blk_lt hblk1.out;omega
        have HO7:=hide ho7
        have u7:Hid (∀u∈us2++us4,u.oneCell'=true):=fun u hu'=>by
         rcases List.mem_append.1 hu' with h|h
         ·exact u2.out u h
         ·exact u4.out u h
        clear ho7 hg7
        have hm7:m2+m4≤p.1-(a+1):=by omega
        have hI7:=hide (hI.out.stay (w':=w7) (by rw[HB.out];exact hb7.out))
        by_cases hp5:p.2=0∧cs[p.1]?=some 5
        ·obtain⟨p0,p5⟩:=hp5
         have hplt:p.1<n:=by rw[←HCN.out];exact(List.getElem?_eq_some_iff.1 p5).1
         have fp0:((p.2:Int)==0)=true:=by simp;omega
         obtain⟨ad7,c7',had7,hc7,hcell7⟩:=hI7.out.code1 hplt
         injection had7 with had7
         subst had7
         have:c7'=5:=by have:=hc7.out;rw[p5]at this;injection this with this;exact this.symm
         subst this
         have hop8:=HOP.out
         rw[if_pos ⟨p0,p5⟩]at hop8
         subst hop8
         clear p0 p5
         go_wp2_with fail
         go_ret3
         exact⟨none,0,0,[],rfl,own_nil _ _ _ _,(by show ∀_,_;simp),by rw[HB.out];exact hb7.out,by omega⟩
        ·have hop8:=HOP.out
         rw[if_neg hp5]at hop8
         have HOP8:=hide hop8
         clear hop8
         by_cases he0:p.2=0
         ·have hop6:=HOP8.out
          rw[if_neg (fun x=>x he0)]at hop6
          have fe0:((p.2:Int)==0)=true:=by simp;omega
          have fe1:((p.2:Int) != 0)=false:=by simp;omega
          by_cases hl:p.1=n
          ·rw[if_pos (by rw[HCN.out];exact hl)]at hop6
           have hnl:n≤p.1:=by omega
           have fl1:((p.1:Int)==(n:Int))=true:=by simp;omega
           subst hop6
           clear he0 hl
           go_wp2_with fail
           go_ret3
           exact⟨none,0,0,[],rfl,own_nil _ _ _ _,(by show ∀_,_;simp),by rw[HB.out];exact hb7.out,by omega⟩
          ·rw[if_neg (by rw[HCN.out];exact hl)]at hop6
           have hpl6:p.1<n:=by omega
           have fl1:((p.1:Int)==(n:Int))=false:=by simp;omega
           have hI6:=hide (hI.out.stay (w':=w7) (by rw[HB.out];exact hb7.out))
           obtain⟨ad6,c6,had6,hc6,hcell6⟩:=hI6.out.code1 hpl6
           injection had6 with had6
           subst had6
           have hn5:c6≠5:=fun x=>hp5 ⟨he0,by rw[hc6.out,x]⟩
           have fn5:(c6==5)=false:=by simpa using hn5
           have HOP6:=hide hop6
           clear hop6 he0 hl hn5
           have z3:=frozen_blk hblk7.out 2
           have s3:=cell_blk hblk7.out 2
           simp at s3
           obtain⟨W4,hW4⟩:∃W4,w7.setCell ⟨gb,2,none⟩ (.int .i64 (p.1:Int))=W4:=⟨_,rfl⟩
           have hs4:Only [gb] w7 W4:=by rw[←hW4];exact Only.setCell w7 (p:=⟨gb,2,none⟩) (by simp) _
           have hblk4:Hid (W4.heap[gb]?=some (.cells #[.int .i64 (a:Int),.int .i64 (q.1:Int),.int .i64 (p.1:Int)] 199 (0,0))):=by show _=_;rw[←hW4,setCell_blk hblk7.out];rfl
           have hb4:Hid (Below base w W4):=hb7.out.trans (hs4.below (by have:=blk_lt hblk7.out;omega) (by simp;omega))
           have ho4:=hide (own_only3 ho7o.out hs4 (fun g hg=>by have:=hlto.out g hg;simp;omega))
           have hi4:=hide (own_only3 HO7.out hs4 (fun g hg=>by have:=hin7.out g hg;simp;omega))
           have hsz4:base≤W4.heap.size:=by have:=blk_lt hblk4.out;omega
           have hlt4:gb<W4.heap.size:=blk_lt hblk4.out
           have HW4:=hide hW4
           clear hW4 hs4
           have y0:=cell_blk hblk4.out 0
           have y1:=cell_blk hblk4.out 1
           have y2:=cell_blk hblk4.out 2
           simp at y0 y1 y2
           have hroom:Room m 1 24:=room_of (by omega) (by omega)
           have hroom2:Room (m+1) (m2+m4) 24:=room_of (by omega) (by omega)
           have MID:Hid (∀(v5:Value) (w5:World),w5.ownsRow base 199 3 v5 (m+1) (us++[.int .i64 (a:Int),.int .i64 (q.1:Int),.int .i64 (p.1:Int)])→Grows W4 w5 (.slice Ao m co) v5 →
             Hid (w5.ownsRow W1.heap.size 199 3 (.slice A7 (m2+m4) c7) (m2+m4) (us2++us4))∧base≤w5.heap.size∧Hid (Below base w w5)):=by
            show ∀_,_
            intro v5 w5 ho5 hg5
            refine⟨?_,Nat.le_trans hsz4 hg5.by_.size,hb4.out.trans (hg5.below hsz4 (own_ge ho4.out))⟩
            refine own_only3 hi4.out (S:=(Value.slice Ao m co).ownBlock.toList) ⟨hg5.by_.os,hg5.by_.tape,hg5.by_.output,hg5.by_.size,fun i hi hn=>hg5.by_.block i hi (fun e=>hn (by rw[←e];simp))⟩ (fun g hg hm=>?_)
            have h1:=hin7.out g hg
            have h2:=hlto.out g (by simpa using hm)
            omega
           go_upto_region 26 with fail
           rw[HW4.out]
           clear y0 y1 y2
           have y0:=cell_blk hblk4.out 0
           have y1:=cell_blk hblk4.out 1
           have y2:=cell_blk hblk4.out 2
           simp at y0 y1 y2
           go_wp2_with (first
            | (at_builtin;refine wpList_push_n rfl (.tmp 118) (.tmp 120) rfl base rspan_elem _ m us rfl W4 [.int .i64 (a:Int),.int .i64 (q.1:Int),.int .i64 (p.1:Int)] 199 rfl ho4.out rfl rfl (by simp[Value.oneCell']) hroom hsz4 ?_;intro v5 w5 ho5 hg5;obtain⟨i5,hsz5,hb5⟩:=MID.out v5 w5 ho5 hg5;obtain⟨A5,c5',rfl,_,_⟩:=own_form ho5;have HO5:=hide ho5;have HR5:=hide (Reads.of_own i5.out);clear ho5 hg5 y0 y1 y2)
            | (at_builtin;refine wpList_append_any rfl (.tmp 121) (.tmp 122) rfl base rspan_elem (.slice A5 (m+1) c5') (m+1) (us++[.int .i64 (a:Int),.int .i64 (q.1:Int),.int .i64 (p.1:Int)]) rfl HO5.out w5.heap.size A7 (m2+m4) c7 (us2++us4) rfl HR5.out u7.out hroom2 hsz5 ?_;intro v6 w6 ho6 hg6))
           have hb6:Hid (Below base w w6):=hb5.out.trans (hg6.below hsz5 (own_ge HO5.out))
           have hu6:Hid (∀u∈us++[.int .i64 (a:Int),.int .i64 (q.1:Int),.int .i64 (p.1:Int)]++(us2++us4),u.oneCell'=true):=fun u hu'=>by
            rcases List.mem_append.1 hu' with h|h
            ·rcases List.mem_append.1 h with h|h
             ·exact hu.out u h
             ·simp at h;rcases h with rfl|rfl|rfl<;>rfl
            ·exact u7.out u h
           have ho6':=hide ho6;clear ho6
           have hsz6:base≤w6.heap.size:=Nat.le_trans hsz5 hg6.by_.size
           go_roundw
           case rel=>exact⟨p.1+1,k,_,_,by go_num,by omega,by omega,by omega,by omega,HOP6,ho6',hu6,by omega,hb6,hsz6⟩
           case measure=>simp[intOf]<;>omega
         ·have hop6:=HOP8.out
          rw[if_pos he0]at hop6
          have fe0:((p.2:Int)==0)=false:=by simp;omega
          have fe1:((p.2:Int) != 0)=true:=by simp;omega
          subst hop6
          clear he0
          go_wp2_with fail
          go_ret3
          exact⟨none,0,0,[],rfl,own_nil _ _ _ _,(by show ∀_,_;simp),by rw[HB.out];exact hb7.out,by omega⟩
       ·rw[if_pos hc4]at hop5
        have fc4:(c==4)=false:=by simpa using hc4
        have fc4':(c != 4)=true:=by simpa using hc4
        subst hop5
        clear hc4
        go_wp2_with fail
        go_ret3
        exact⟨none,0,0,[],rfl,own_nil _ _ _ _,(by show ∀_,_;simp),by rw[HB.out];exact hb2.out,by omega⟩
      ·have hop5:=hopen.out
       rw[if_neg hq5]at hop5
       have HOP:=hide hop5
       clear hop5 hopen
       by_cases he0:q.2=0
       ·have hop6:=HOP.out
        rw[if_neg (fun x=>x he0)]at hop6
        have fe0:((q.2:Int)==0)=true:=by simp;omega
        have fe1:((q.2:Int) != 0)=false:=by simp;omega
        by_cases hl:q.1=n
        ·rw[if_pos (by rw[HCN.out];exact hl)]at hop6
         have hnl:n≤q.1:=by omega
         have fl1:((q.1:Int)==(n:Int))=true:=by simp;omega
         subst hop6
         clear he0 hl
         go_wp2_with fail
         go_ret3
         exact⟨none,0,0,[],rfl,own_nil _ _ _ _,(by show ∀_,_;simp),by rw[HB.out];exact hb2.out,by omega⟩
        ·rw[if_neg (by rw[HCN.out];exact hl)]at hop6
         have hpl6:q.1<n:=by omega
         have fl1:((q.1:Int)==(n:Int))=false:=by simp;omega
         have hI6:=hide (hI.out.stay (w':=w2) (by rw[HB.out];exact hb2.out))
         obtain⟨ad6,c6,had6,hc6,hcell6⟩:=hI6.out.code1 hpl6
         injection had6 with had6
         subst had6
         have hn5:c6≠5:=fun x=>hq5 ⟨he0,by rw[hc6.out,x]⟩
         have fn5:(c6==5)=false:=by simpa using hn5
         have HOP6:=hide hop6
         clear hop6 he0 hl hn5
         have z3:=frozen_blk hblk2.out 2
         have s3:=cell_blk hblk2.out 2
         simp at s3
         obtain⟨W4,hW4⟩:∃W4,w2.setCell ⟨gb,2,none⟩ (.int .i64 (q.1:Int))=W4:=⟨_,rfl⟩
         have hs4:Only [gb] w2 W4:=by rw[←hW4];exact Only.setCell w2 (p:=⟨gb,2,none⟩) (by simp) _
         have hblk4:Hid (W4.heap[gb]?=some (.cells #[.int .i64 (a:Int),.int .i64 (-1),.int .i64 (q.1:Int)] 199 (0,0))):=by show _=_;rw[←hW4,setCell_blk hblk2.out];rfl
         have hb4:Hid (Below base w W4):=hb2.out.trans (hs4.below (by have:=blk_lt hblk2.out;omega) (by simp;omega))
         have ho4:=hide (own_only3 ho2.out hs4 (fun g hg=>by have:=hlto.out g hg;simp;omega))
         have hi4:=hide (own_only3 o2.out hs4 (fun g hg=>by have:=hin2.out g hg;simp;omega))
         have hsz4:base≤W4.heap.size:=by have:=blk_lt hblk4.out;omega
         have hlt4:gb<W4.heap.size:=blk_lt hblk4.out
         have HW4:=hide hW4
         clear hW4 hs4
         have y0:=cell_blk hblk4.out 0
         have y1:=cell_blk hblk4.out 1
         have y2:=cell_blk hblk4.out 2
         simp at y0 y1 y2
         have hroom:Room m 1 24:=room_of (by omega) (by omega)
         have hroom2:Room (m+1) m2 24:=room_of (by omega) (by omega)
         have MID:Hid (∀(v5:Value) (w5:World),w5.ownsRow base 199 3 v5 (m+1) (us++[.int .i64 (a:Int),.int .i64 (-1),.int .i64 (q.1:Int)])→Grows W4 w5 (.slice Ao m co) v5 →
           Hid (w5.ownsRow W1.heap.size 199 3 (.slice A2 m2 c2) m2 us2)∧base≤w5.heap.size∧Hid (Below base w w5)):=by
          show ∀_,_
          intro v5 w5 ho5 hg5
          refine⟨?_,Nat.le_trans hsz4 hg5.by_.size,hb4.out.trans (hg5.below hsz4 (own_ge ho4.out))⟩
          refine own_only3 hi4.out (S:=(Value.slice Ao m co).ownBlock.toList) ⟨hg5.by_.os,hg5.by_.tape,hg5.by_.output,hg5.by_.size,fun i hi hn=>hg5.by_.block i hi (fun e=>hn (by rw[←e];simp))⟩ (fun g hg hm=>?_)
          have h1:=hin2.out g hg
          have h2:=hlto.out g (by simpa using hm)
          omega
         go_upto_region 26 with fail
         rw[HW4.out]
         clear y0 y1 y2
         have y0:=cell_blk hblk4.out 0
         have y1:=cell_blk hblk4.out 1
         have y2:=cell_blk hblk4.out 2
         simp at y0 y1 y2
         go_wp2_with (first
          | (at_builtin;refine wpList_push_n rfl (.tmp 118) (.tmp 120) rfl base rspan_elem _ m us rfl W4 [.int .i64 (a:Int),.int .i64 (-1),.int .i64 (q.1:Int)] 199 rfl ho4.out rfl rfl (by simp[Value.oneCell']) hroom hsz4 ?_;intro v5 w5 ho5 hg5;obtain⟨i5,hsz5,hb5⟩:=MID.out v5 w5 ho5 hg5;obtain⟨A5,c5',rfl,_,_⟩:=own_form ho5;have HO5:=hide ho5;have HR5:=hide (Reads.of_own i5.out);clear ho5 hg5 y0 y1 y2)
          | (at_builtin;refine wpList_append_any rfl (.tmp 121) (.tmp 122) rfl base rspan_elem (.slice A5 (m+1) c5') (m+1) (us++[.int .i64 (a:Int),.int .i64 (-1),.int .i64 (q.1:Int)]) rfl HO5.out w5.heap.size A2 m2 c2 us2 rfl HR5.out u2.out hroom2 hsz5 ?_;intro v6 w6 ho6 hg6))
         have hb6:Hid (Below base w w6):=hb5.out.trans (hg6.below hsz5 (own_ge HO5.out))
         have hu6:Hid (∀u∈us++[.int .i64 (a:Int),.int .i64 (-1),.int .i64 (q.1:Int)]++us2,u.oneCell'=true):=fun u hu'=>by
          rcases List.mem_append.1 hu' with h|h
          ·rcases List.mem_append.1 h with h|h
           ·exact hu.out u h
           ·simp at h;rcases h with rfl|rfl|rfl<;>rfl
          ·exact u2.out u h
         have ho6':=hide ho6;clear ho6
         have hsz6:base≤w6.heap.size:=Nat.le_trans hsz5 hg6.by_.size
         go_roundw
         case rel=>exact⟨q.1+1,k,_,_,by go_num,by omega,by omega,by omega,by omega,HOP6,ho6',hu6,by omega,hb6,hsz6⟩
         case measure=>simp[intOf]<;>omega
       ·have hop6:=HOP.out
        rw[if_pos he0]at hop6
        have fe0:((q.2:Int)==0)=false:=by simp;omega
        have fe1:((q.2:Int) != 0)=true:=by simp;omega
        subst hop6
        clear he0
        go_wp2_with fail
        go_ret3
        exact⟨none,0,0,[],rfl,own_nil _ _ _ _,(by show ∀_,_;simp),by rw[HB.out];exact hb2.out,by omega⟩
  ·have han:a=n:=by omega
   have hr:R=(a,0):=by rw[←hk.out];exact blockP_none (List.getElem?_eq_none (by rw[HCN.out];omega))
   subst hr
   clear hlt
   go_wp2_with fail
   go_ret3
   exact⟨Ao,m,co,us,rfl,by rw[HB.out];exact ho.out,hu,by rw[HB.out];exact hb.out,hm⟩
def SpPost (w:World) (r:Nat×Nat) (e:Ending) (w':World):Prop :=
 ∃(A:Option Addr) (m c:Nat),e=.returned (.tuple #[.slice A m c,.int .i64 (r.1:Int),.int .i64 (r.2:Int)])∧Hid (Below w.heap.size w w')
set_option maxHeartbeats 1600000 in
theorem refSpans_any (Al:Option Addr) (n cl:Nat) (xs:List (Int×Int×Int×Int×Value)) (cs:List Int) (hn:n≤100000) (w:World) (hI:Hid (IL w Al n xs cs)) :
  Calls Tryz.prog 40 #[.slice Al n cl] w (SpPost w (refSp cs)):=by
 have hcn:cs.length=n:=by rw[←hI.out.codes,List.length_map,hI.out.len]
 have HBK:=hide (refBlock_any Al n cl xs cs hn (cs.length+1) 0 0 w hI (by omega) (by omega) (by omega))
 have hle:=blockP_le cs (cs.length+1) 0 0 (by omega)
 obtain⟨r,hr⟩:∃r,refSp cs=r:=⟨_,rfl⟩
 rw[hr]
 unfold refSp at hr
 obtain⟨q,hq⟩:∃q,blockP cs (cs.length+1) 0 0=q:=⟨_,rfl⟩
 rw[hq]at HBK hle hr
 simp only at hr
 rw[hcn]at hle hr
 have HCN:=hide hcn
 clear hcn hq
 have hr':=hr
 have HR:=hide hr;clear hr hr'
 go_enter Tryz.func40,Tryz.ntmps40
 go_wp2_with fail
 refine HBK.out.mono ?_;rintro e w1 ⟨A,m,c,us,rfl,ho,hu,hb,hm⟩
 have hI1:=hide (hI.out.stay hb.out)
 by_cases he:q.2=0
 ·have f0:((q.2:Int) != 0)=false:=by simp;omega
  have hr:=HR.out
  rw[if_neg (fun x=>x he)]at hr
  have HE:=hide he
  clear he
  by_cases hl:q.1=n
  ·have fl:((q.1:Int)==(n:Int))=true:=by simp;omega
   rw[if_pos (.inl hl)]at hr
   subst hr
   clear hl
   go_wp2_with fail
   go_ret3
   exact⟨none,0,0,rfl,hb⟩
  ·have hlt:q.1<n:=by omega
   have fl:((q.1:Int)==(n:Int))=false:=by simp;omega
   obtain⟨ad,c5,rfl,hc5,hcell⟩:=hI1.out.code1 hlt
   have hbd:=hI.out.bd c5 (List.mem_of_getElem? hc5.out)
   by_cases h5:c5=5
   ·subst h5
    rw[if_pos (.inr hc5.out)]at hr
    subst hr
    clear hl
    go_wp2_with fail
    go_ret3
    exact⟨none,0,0,rfl,hb⟩
   ·have f5:(c5==5)=false:=by simpa using h5
    have hn5:¬(q.1=n∨cs[q.1]?=some 5):=by
     rintro(x|x)
     ·exact hl x
     ·rw[hc5.out]at x;injection x with x;exact h5 x
    rw[if_neg hn5]at hr
    have HN5:=hide hn5
    clear hl h5 hn5
    by_cases h6:q.1+1<n
    ·rw[if_pos h6]at hr
     subst hr
     go_wp2_with fail
     go_ret3
     exact⟨none,0,0,rfl,hb⟩
    ·rw[if_neg h6]at hr
     subst hr
     have hn1:n≤q.1+1:=by omega
     clear h6
     obtain⟨A2,c2,hv,_,_⟩:=own_form ho.out
     clear hv
     go_wp2_with fail
     go_ret3
     exact⟨A,m,c,rfl,hb⟩
 ·have f0:((q.2:Int) != 0)=true:=by simp;omega
  have hr:=HR.out
  rw[if_pos he]at hr
  subst hr
  clear he
  go_wp2_with fail
  go_ret3
  exact⟨none,0,0,rfl,hb⟩
structure RXV (w:World) (g:Nat) (x:XI) (A:Option Addr) (cl:Nat):Prop where
 blk:w.heap[g]?=some (.cells #[.int .i64 x.code,.int .u64 (x.a:Int),.int .u64 (x.b:Int),.int .i64 x.al,.slice A x.l.length cl] 45 (0,0))
theorem RXV.below {w w':World} {g:Nat} {x:XI} {A:Option Addr} {cl:Nat} {Bk:Nat} (h:RXV w g x A cl) (hb:Below Bk w w') (hg:g<Bk):RXV w' g x A cl:=⟨(hb.block g hg).trans h.blk⟩
theorem RXV.cs {w:World} {g:Nat} {x:XI} {A:Option Addr} {cl:Nat} (h:RXV w g x A cl):w.cell? ⟨g,0,none⟩=some (.int .i64 x.code)∧w.cell? ⟨g,1,none⟩=some (.int .u64 (x.a:Int))∧w.cell? ⟨g,2,none⟩=some (.int .u64 (x.b:Int))∧w.cell? ⟨g,3,none⟩=some (.int .i64 x.al)∧w.cell? ⟨g,4,none⟩=some (.slice A x.l.length cl) :=
 ⟨cell_blk h.blk 0,cell_blk h.blk 1,cell_blk h.blk 2,cell_blk h.blk 3,cell_blk h.blk 4⟩
theorem rxv_new (w:World) (x:XI) (A:Option Addr) (cl:Nat):RXV (w.alloc (.cells #[.int .i64 x.code,.int .u64 (x.a:Int),.int .u64 (x.b:Int),.int .i64 x.al,.slice A x.l.length cl] 45)) w.heap.size x A cl:=⟨heap_alloc_new w _⟩
def rt1 (f:Int) (x:XI):Bool:=((f != 11)&&decide ((4294967295:Int)<(x.a:Int)))||(((x.code==65)&&decide ((4294967295:Int)<(x.a:Int)))||((f != 8)&&decide ((4294967295:Int)<(x.b:Int))))
def rt2 (f:Int) (x:XI):Bool:=((f==0)&&((x.a:Int) != 0))||((f==1)&&(((x.a:Int) != 64)&&(((x.a:Int) != 126)&&((x.a:Int) != 127))))
def rt3 (f:Int) (x:XI):Bool:=((f != 5)&&((f != 8)&&((f != 10)&&((x.b:Int) != 0))))||(((f != 8)&&(x.al != 0))||(decide (x.al<0)||decide ((31:Int)<x.al)))
def rt4 (f:Int) (x:XI):Bool:=((x.l.length:Int)==0)||((f==3)&&decide ((x.l.length:Int)≤100))
theorem form11 {c:Int} (h:refForm c=11):c=65∨c=66:=by
 unfold refForm at h
 repeat' (split at h)
 all_goals omega
theorem right_ref (x:XI) (ho:(opRow x.code).isSome=true):rightX x=(!rt1 (refForm x.code) x&&(!rt2 (refForm x.code) x&&(!rt3 (refForm x.code) x&&(x.l.all small&&rt4 (refForm x.code) x)))):=by
 have h11:=form11 (c:=x.code)
 unfold rightX
 rw[ho,Bool.true_and]
 have hnil:x.l.length=0→x.l.all small=true:=by intro h;rw[List.eq_nil_of_length_eq_zero h];rfl
 have hfb:=refForm_bd x.code
 generalize refForm x.code=f at h11 hfb ⊢
 rcases hfb with rfl|rfl|rfl|rfl|rfl|rfl|rfl|rfl|rfl|rfl|rfl|rfl
 all_goals
  rw[Bool.eq_iff_iff]
  simp[rightF,rt1,rt2,rt3,rt4,blocked,small]at h11 ⊢
 all_goals
  by_cases hQ:x.l=[]
  ·have hP:∀n,n∈x.l→n≤4294967295:=by rw[hQ];intro n h;cases h
   have hL:x.l.length=0:=by rw[hQ];rfl
   simp only[hQ,implies_true,true_and,and_true,true_or,List.not_mem_nil,false_implies,List.length_nil]
   omega
  ·by_cases hP:∀n,n∈x.l→n≤4294967295
   ·simp only[hQ,eq_true hP,true_and,and_false,false_or,iff_self]
    try omega
   ·simp only[hQ,eq_false hP,false_and,and_false,iff_self]
end Go.Proofs.YtpcanheghenhdaaGreat
