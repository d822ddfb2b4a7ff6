import Derived.Test.YtmekgpdfiimofaaGreatDoorWAP
import Derived.Test.YtmekgpdfiimofaaGreatDoorWAO
set_option linter.unusedVariables false
namespace Go.Proofs.YtmekgpdfiimofaaGreatDoor
open Go.RowKit
theorem i64_sub (n i:Nat) (h:n=i+1) (hn:n≤1000000000):IntKind.i64.wrap ((n:Int)-1)=(i:Int):=by rw[IntWalk.i64_in _ (by omega)];omega
theorem own_some {w:World} {base:Nat} {e:TypeId} {size n:Nat} {v:Value} {xs:List Value} (h:w.ownsRow base e size v n xs) (hn:0<n):∃g c,v=.slice (some ⟨g,0,none⟩) n c:=by
 obtain⟨g,c,hv,_⟩:=h.form hn
 exact⟨g,c,hv⟩
set_option maxRecDepth 100000 in
theorem ctop_any (K:KX) (vs:Value) (cs:List CB) (st:List UInt8) (g n c i:Nat) (w:World) (h:Hid (CK w K vs (.slice (some ⟨g,0,none⟩) n c) cs st)) (hi:n=i+1) (hn:n≤1000000) :
  Calls Tryz.prog 154 #[.pointer (some ⟨K.cb,0,none⟩)] w fun e w'=>e=.returned (.pointer (some ⟨g,i*5,none⟩))∧Hid (Below w.heap.size w w'):=by
 have c5:=h.out.c5
 have e1:=i64_sub n i hi (by omega)
 have e2:(n:Int)-1=(i:Int):=by omega
 have e3:(i:Int)<(n:Int):=by omega
 have e4:i≤1000000:=by omega
 clear hi
 go_enter Tryz.func154,Tryz.ntmps154
 go_wp2_with fail
 go_quiet (fail)
 go_wp2_with fail
 go_ret
 exact⟨rfl,below_dr (Below.refl _ _) _⟩
theorem type_elem16:IsElem Tryz.prog 69 92 1 1:=IsElem.mk' Tryz.underlying69 (z:=.int .u8 0) (by kernel_rfl) rfl (by omega)
set_option maxRecDepth 100000 in
theorem cpush_any (K:KX) (vs vb:Value) (cs:List CB) (st:List UInt8) (A:Option Addr) (c n:Nat) (l:List UInt8) (w:World) (h:Hid (CK w K vs vb cs st)) (hr:Hid (Reads w w.heap.size 1 A n (l.map B))) (hln:Hid (l.length=n)) (hs:st.length≤10000000) (hl:n≤100000) :
  Calls Tryz.prog 134 #[.pointer (some ⟨K.cb,0,none⟩),.slice A n c] w fun e w'=>∃vs',e=.returned (.tuple #[])∧Hid (CK w' K vs' vb cs (st++l))∧Hid (NW w w' K.cb vs vb vs' vb):=by
 have c4:=h.out.c4
 have hroom:Room st.length n 1:=room_of (by omega) (by omega)
 have hsz:=Nat.le_of_lt h.out.size.1
 obtain⟨A4,q4,hv4,_,_⟩:=own_form h.out.os
 subst hv4
 have HOS:=hide h.out.os
 have HBK:Hid (∀v3 w3,Grows w w3 (.slice A4 st.length q4) v3→w3.heap[K.cb]?=some (.cells #[K.c0,K.c1,K.c2,K.c3,.slice A4 st.length q4,vb] 151 (0,0))):=fun v3 w3 hg=>(hg.only.block K.cb h.out.size.2 (fun hm=>h.out.as_ (by simpa using hm))).trans h.out.blk
 have HLN:Hid ((st++l).length=st.length+n):=by show _=_;rw[List.length_append,hln.out]
 go_enter Tryz.func134,Tryz.ntmps134
 go_wp2_with (at_builtin;refine wpList_append_any rfl _ _ rfl K.bs type_elem16 (.slice A4 st.length q4) st.length (st.map B) rfl HOS.out w.heap.size A n c (l.map B) rfl hr.out (B_map_one _) hroom hsz ?_;intro v' w3 ho3 hg3;have ho3':=hide (h.out.set_st (st2:=st++l) hg3 (own_cast ho3 HLN.out.symm (by rw[List.map_append])));have y4:=cell_blk (HBK.out _ _ hg3) 4;have z4:=frozen_blk (HBK.out _ _ hg3) 4;obtain⟨A5,c5,rfl,_,_⟩:=own_form ho3;simp at y4;clear ho3 hg3)
 go_end0
 exact⟨_,rfl,ho3'.out.1,ho3'.out.2⟩
theorem beq8 (a b:UInt8):((a.toNat:Int)==(b.toNat:Int))=(a==b):=by
 rw[Bool.eq_iff_iff]
 simp only[beq_iff_eq]
 rw[←UInt8.toNat_inj]
 omega
theorem beq80 (a:UInt8):((a.toNat:Int)==0)=(a==0):=beq8 a 0
set_option maxRecDepth 100000 in
set_option maxHeartbeats 1600000 in
theorem cpop_any (K:KX) (vs vb:Value) (cs:List CB) (st:List UInt8) (want:UInt8) (w:World) (h:Hid (CK w K vs vb cs st)) (hv:InvP (psOf cs st)) (hs:st.length≤10000000) (hcl:cs.length≤100000) :
  Calls Tryz.prog 128 #[.pointer (some ⟨K.cb,0,none⟩),.int .u8 (want.toNat:Int)] w fun e w'=>match popP (psOf cs st) want with
   | .ok q=>∃vs',e=.returned (.int .u8 (q.2.toNat:Int))∧Hid (CK w' K vs' vb cs q.1.st)∧Hid (NW w w' K.cb vs vb vs' vb)∧q.1.bl=cs.map CB.p
   | .bad n=>e=flt n∧Hid (Bad w w' K vs vb):=by
 have hne:cs≠[]:=fun e=>hv.ne (by unfold psOf;rw[e];rfl)
 obtain⟨i,hi⟩:∃i,cs.length=i+1:=⟨cs.length-1,by have:=List.length_pos_iff.2 hne;omega⟩
 obtain⟨b,hb⟩:∃b,cs[i]?=some b:=⟨_,List.getElem?_eq_getElem (by omega)⟩
 have htop:(psOf cs st).top=b.p:=by
  unfold PS.top psOf
  simp only[List.length_map]
  rw[hi,Nat.add_sub_cancel]
  exact getD_some (by rw[List.getElem?_map,hb];rfl)
 have hbh:b.h≤st.length:=by have:=hv.top;rw[htop]at this;exact this
 obtain⟨g,c,hvb⟩:=own_some h.out.ob (by omega)
 subst hvb
 obtain⟨k0,k1,k2,k3,k4⟩:=h.out.cells (g:=g) rfl hb
 have HT:=hide (ctop_any K vs cs st g cs.length c i w h hi (by omega))
 obtain⟨A4,q4,hv4,hq4,hq5⟩:=own_form h.out.os
 subst hv4
 unfold popP
 rw[htop]
 simp only[show (psOf cs st).st=st from rfl,show b.p.h=b.h from rfl,show b.p.dead=b.dead from rfl,show (psOf cs st).bl=cs.map CB.p from rfl]
 by_cases hh:st.length=b.h
 ·rw[if_pos hh]
  rw[←hh]at k3
  cases hd:b.dead with
  | true =>
   rw[hd]at k4
   simp only[need,if_true]
   go_enter Tryz.func128,Tryz.ntmps128
   go_wp2_with fail
   refine HT.out.mono ?_;rintro e w1 ⟨rfl,h1⟩
   have hk1:=hide (h.out.quiet h1.out)
   obtain⟨_,_,_,j3,j4⟩:=hk1.out.cells (g:=g) rfl hb
   have j5:=hk1.out.c4
   rw[hd]at j4
   rw[←hh]at j3
   clear HT hq4 hq5 hb htop hd k0 k1 k2 k3 k4 hh hbh hi
   go_wp2_with fail
   go_quiet (fail)
   go_wp2_with fail
   refine(must_yes _ _).mono ?_;rintro e w2 ⟨rfl,rfl⟩
   go_wp2_with fail
   go_ret
   exact⟨_,rfl,hk1.out.quiet (below_dr (Below.refl _ _) _),(NW.of_below h1.out).trans (NW.of_below (below_dr (Below.refl _ _) _)),rfl⟩
  | false =>
   rw[hd]at k4
   simp only[need,Bool.false_eq_true,if_false]
   go_enter Tryz.func128,Tryz.ntmps128
   go_wp2_with fail
   refine HT.out.mono ?_;rintro e w1 ⟨rfl,h1⟩
   have hk1:=hide (h.out.quiet h1.out)
   obtain⟨_,_,_,j3,j4⟩:=hk1.out.cells (g:=g) rfl hb
   have j5:=hk1.out.c4
   rw[hd]at j4
   rw[←hh]at j3
   have hbs:=Nat.le_of_lt h.out.size.1
   clear HT hq4 hq5 hb htop hd k0 k1 k2 k3 k4 hh hbh hi
   go_wp2_with fail
   go_quiet (fail)
   go_wp2_with fail
   refine(must_no 5 5 rfl _).mono ?_;rintro e w2 ⟨rfl,rfl⟩
   unfold flt
   go_wp2_with fail
   exact⟨rfl,rfl,Bad.of (NW.of_below (below_dr h1.out _))⟩
 ·rw[if_neg hh]
  obtain⟨m,hm⟩:∃m,st.length=m+1:=⟨st.length-1,by omega⟩
  obtain⟨got,hgot⟩:∃got,st[m]?=some got:=⟨_,List.getElem?_eq_getElem (by omega)⟩
  have hgv:st.getD (st.length-1) 0=got:=by rw[hm,Nat.add_sub_cancel];exact getD_some hgot
  rw[hgv]
  have hm1:st.length-1=m:=by omega
  rw[hm1]
  have E1:=beq8 got want
  have E2:=beq80 got
  have E3:=beq80 want
  have hg0:(got=0)↔(got==0)=true:=by simp
  simp only[hg0]
  obtain⟨g4,hg4⟩:∃g4,A4=some ⟨g4,0,none⟩:=by
   obtain⟨g4,c4,e,_⟩:=h.out.os.form (by omega)
   injection e with e
   exact⟨g4,e⟩
  subst hg4
  have hne1:((st.length:Int)==(b.h:Int))=false:=by simp;omega
  obtain⟨n,hn⟩:∃n,st.length=n:=⟨_,rfl⟩
  have hnm:n=m+1:=by omega
  have s1:=i64_sub n m hnm (by omega)
  have s2:(n:Int)-1=(m:Int):=by omega
  have s3:(m:Int)<(n:Int):=by omega
  have s4:m≤10000000:=by omega
  have s5:m≤n:=by omega
  have s6:n≤q4:=by omega
  have HLT:Hid ((st.take m).length=m):=by show _=_;rw[List.length_take];omega
  have hbs:=Nat.le_of_lt h.out.size.1
  have HMid:Hid (∀(w1:World),CK w1 K (.slice (some ⟨g4,0,none⟩) st.length q4) (.slice (some ⟨g,0,none⟩) cs.length c) cs st →
    w1.cell? ⟨g4,m,none⟩=some (.int .u8 (got.toNat:Int))∧CK (w1.setCell ⟨K.cb,4,none⟩ (.slice (some ⟨g4,0,none⟩) m q4)) K (.slice (some ⟨g4,0,none⟩) m q4) (.slice (some ⟨g,0,none⟩) cs.length c) cs (st.take m) ∧
    NW w1 (w1.setCell ⟨K.cb,4,none⟩ (.slice (some ⟨g4,0,none⟩) m q4)) K.cb (.slice (some ⟨g4,0,none⟩) st.length q4) (.slice (some ⟨g,0,none⟩) cs.length c) (.slice (some ⟨g4,0,none⟩) m q4) (.slice (some ⟨g,0,none⟩) cs.length c)):=by
   intro w1 hk
   refine⟨?_,?_⟩
   ·have:=hk.os.cells (g:=g4) rfl m (B got) (by rw[List.getElem?_map,hgot];rfl)
    rwa [show Addr.add ⟨g4,0,none⟩ m=⟨g4,m,none⟩from by unfold Addr.add;split<;>simp_all]at this
   ·have ho:=hk.os
    rw[hm]at ho
    have ho2:=own_short ho
    rw[Nat.mul_one,←List.map_take]at ho2
    exact hk.set_st (vs':=.slice (some ⟨g4,0,none⟩) m q4) (st2:=st.take m) ⟨⟨rfl,rfl,rfl,Nat.le_refl _,fun _ _ _=>rfl⟩,.inl rfl⟩ (own_cast ho2 HLT.out.symm rfl)
  rw[hn]at hne1 HMid h
  rw[hn]
  have hgn:(got.toNat:Int)≤255:=by have:=got.toNat_lt;omega
  clear hq4 hq5 htop k0 k1 k2 k3 k4 hh hbh hv hgv hm1 hg0 hgot hs hm hn hnm
  generalize (got==want)=p1 at *
  generalize (got==0)=p2 at *
  generalize (want==0)=p3 at *
  cases p1<;>cases p2<;>cases p3<;>simp only[need,Bool.or_false,Bool.or_true,if_true,Bool.false_eq_true,if_false]
  ·go_enter Tryz.func128,Tryz.ntmps128
   go_wp2_with fail
   refine HT.out.mono ?_;rintro e w1 ⟨rfl,h1⟩
   have hk1:=hide (h.out.quiet h1.out)
   obtain⟨_,_,_,j3,_⟩:=hk1.out.cells (g:=g) rfl hb
   have j5:=hk1.out.c4
   go_wp2_with fail
   go_quiet (fail)
   have hk2:=hide (hk1.out.quiet (below_dr (Below.refl _ _) nq))
   have hb2:=hide (below_dr h1.out nq)
   generalize w1.drewN nq=w2 at *
   clear j3 j5 hk1 h1 HT
   have j5:=hk2.out.c4
   have jm:=(HMid.out w2 hk2.out).1
   go_wp2_with fail
   go_quiet (fail)
   have hk3:=hide (hk2.out.quiet (below_dr (Below.refl _ _) nq))
   have hb3:=hide (below_dr hb2.out nq)
   generalize w2.drewN nq=w3 at *
   clear j5 jm hk2 hb2
   have C5:=fun k:ExtW w3=>k.cell hk3.out.c4
   go_wp2_with fail
   refine wp_region_ext_last (l:=[_,_,_,_,_,_,_,_,_,_,_,_,_,_]) (o:=_) (by kernel_rfl) (by kernel_rfl) (by kernel_rfl) (by kernel_rfl) ?_
   repeat (go_big_quiet_step (fail))
   refine wpQuiet_nil ?_
   intro k
   have hk4:=hide (hk3.out.quiet k.b)
   have y4:=hk4.out.c4
   have z4:=hk4.out.free 4
   have hnx:=hide (HMid.out k.w hk4.out).2
   go_wp2_with fail
   refine(must_no 5 5 rfl _).mono ?_;rintro e w5 ⟨rfl,rfl⟩
   unfold flt
   go_wp2_with fail
   exact⟨rfl,rfl,Bad.of (((NW.of_below (K:=K) (vs:=.slice (some ⟨g4,0,none⟩) n q4) (vb:=.slice (some ⟨g,0,none⟩) cs.length c) hb3.out).trans (NW.of_below k.b)).trans hnx.out.2)⟩
  ·go_enter Tryz.func128,Tryz.ntmps128
   go_wp2_with fail
   refine HT.out.mono ?_;rintro e w1 ⟨rfl,h1⟩
   have hk1:=hide (h.out.quiet h1.out)
   obtain⟨_,_,_,j3,_⟩:=hk1.out.cells (g:=g) rfl hb
   have j5:=hk1.out.c4
   go_wp2_with fail
   go_quiet (fail)
   have hk2:=hide (hk1.out.quiet (below_dr (Below.refl _ _) nq))
   have hb2:=hide (below_dr h1.out nq)
   generalize w1.drewN nq=w2 at *
   clear j3 j5 hk1 h1 HT
   have j5:=hk2.out.c4
   have jm:=(HMid.out w2 hk2.out).1
   go_wp2_with fail
   go_quiet (fail)
   have hk3:=hide (hk2.out.quiet (below_dr (Below.refl _ _) nq))
   have hb3:=hide (below_dr hb2.out nq)
   generalize w2.drewN nq=w3 at *
   clear j5 jm hk2 hb2
   have C5:=fun k:ExtW w3=>k.cell hk3.out.c4
   go_wp2_with fail
   refine wp_region_ext_last (l:=[_,_,_,_,_,_,_,_,_,_,_,_,_,_]) (o:=_) (by kernel_rfl) (by kernel_rfl) (by kernel_rfl) (by kernel_rfl) ?_
   repeat (go_big_quiet_step (fail))
   refine wpQuiet_nil ?_
   intro k
   have hk4:=hide (hk3.out.quiet k.b)
   have y4:=hk4.out.c4
   have z4:=hk4.out.free 4
   have hnx:=hide (HMid.out k.w hk4.out).2
   go_wp2_with fail
   refine(must_yes _ _).mono ?_;rintro e w5 ⟨rfl,rfl⟩
   go_wp2_with fail
   go_ret
   exact⟨_,rfl,hnx.out.1,((NW.of_below hb3.out).trans (NW.of_below k.b)).trans hnx.out.2,(by first|trivial|rfl)⟩
  ·go_enter Tryz.func128,Tryz.ntmps128
   go_wp2_with fail
   refine HT.out.mono ?_;rintro e w1 ⟨rfl,h1⟩
   have hk1:=hide (h.out.quiet h1.out)
   obtain⟨_,_,_,j3,_⟩:=hk1.out.cells (g:=g) rfl hb
   have j5:=hk1.out.c4
   go_wp2_with fail
   go_quiet (fail)
   have hk2:=hide (hk1.out.quiet (below_dr (Below.refl _ _) nq))
   have hb2:=hide (below_dr h1.out nq)
   generalize w1.drewN nq=w2 at *
   clear j3 j5 hk1 h1 HT
   have j5:=hk2.out.c4
   have jm:=(HMid.out w2 hk2.out).1
   go_wp2_with fail
   go_quiet (fail)
   have hk3:=hide (hk2.out.quiet (below_dr (Below.refl _ _) nq))
   have hb3:=hide (below_dr hb2.out nq)
   generalize w2.drewN nq=w3 at *
   clear j5 jm hk2 hb2
   have C5:=fun k:ExtW w3=>k.cell hk3.out.c4
   go_wp2_with fail
   refine wp_region_ext_last (l:=[_,_,_,_,_,_,_,_,_,_,_,_,_,_]) (o:=_) (by kernel_rfl) (by kernel_rfl) (by kernel_rfl) (by kernel_rfl) ?_
   repeat (go_big_quiet_step (fail))
   refine wpQuiet_nil ?_
   intro k
   have hk4:=hide (hk3.out.quiet k.b)
   have y4:=hk4.out.c4
   have z4:=hk4.out.free 4
   have hnx:=hide (HMid.out k.w hk4.out).2
   go_wp2_with fail
   refine(must_yes _ _).mono ?_;rintro e w5 ⟨rfl,rfl⟩
   go_wp2_with fail
   go_ret
   exact⟨_,rfl,hnx.out.1,((NW.of_below hb3.out).trans (NW.of_below k.b)).trans hnx.out.2,(by first|trivial|rfl)⟩
  ·go_enter Tryz.func128,Tryz.ntmps128
   go_wp2_with fail
   refine HT.out.mono ?_;rintro e w1 ⟨rfl,h1⟩
   have hk1:=hide (h.out.quiet h1.out)
   obtain⟨_,_,_,j3,_⟩:=hk1.out.cells (g:=g) rfl hb
   have j5:=hk1.out.c4
   go_wp2_with fail
   go_quiet (fail)
   have hk2:=hide (hk1.out.quiet (below_dr (Below.refl _ _) nq))
   have hb2:=hide (below_dr h1.out nq)
   generalize w1.drewN nq=w2 at *
   clear j3 j5 hk1 h1 HT
   have j5:=hk2.out.c4
   have jm:=(HMid.out w2 hk2.out).1
   go_wp2_with fail
   go_quiet (fail)
   have hk3:=hide (hk2.out.quiet (below_dr (Below.refl _ _) nq))
   have hb3:=hide (below_dr hb2.out nq)
   generalize w2.drewN nq=w3 at *
   clear j5 jm hk2 hb2
   have C5:=fun k:ExtW w3=>k.cell hk3.out.c4
   go_wp2_with fail
   refine wp_region_ext_last (l:=[_,_,_,_,_,_,_,_,_,_,_,_,_,_]) (o:=_) (by kernel_rfl) (by kernel_rfl) (by kernel_rfl) (by kernel_rfl) ?_
   repeat (go_big_quiet_step (fail))
   refine wpQuiet_nil ?_
   intro k
   have hk4:=hide (hk3.out.quiet k.b)
   have y4:=hk4.out.c4
   have z4:=hk4.out.free 4
   have hnx:=hide (HMid.out k.w hk4.out).2
   go_wp2_with fail
   refine(must_yes _ _).mono ?_;rintro e w5 ⟨rfl,rfl⟩
   go_wp2_with fail
   go_ret
   exact⟨_,rfl,hnx.out.1,((NW.of_below hb3.out).trans (NW.of_below k.b)).trans hnx.out.2,(by first|trivial|rfl)⟩
  ·go_enter Tryz.func128,Tryz.ntmps128
   go_wp2_with fail
   refine HT.out.mono ?_;rintro e w1 ⟨rfl,h1⟩
   have hk1:=hide (h.out.quiet h1.out)
   obtain⟨_,_,_,j3,_⟩:=hk1.out.cells (g:=g) rfl hb
   have j5:=hk1.out.c4
   go_wp2_with fail
   go_quiet (fail)
   have hk2:=hide (hk1.out.quiet (below_dr (Below.refl _ _) nq))
   have hb2:=hide (below_dr h1.out nq)
   generalize w1.drewN nq=w2 at *
   clear j3 j5 hk1 h1 HT
   have j5:=hk2.out.c4
   have jm:=(HMid.out w2 hk2.out).1
   go_wp2_with fail
   go_quiet (fail)
   have hk3:=hide (hk2.out.quiet (below_dr (Below.refl _ _) nq))
   have hb3:=hide (below_dr hb2.out nq)
   generalize w2.drewN nq=w3 at *
   clear j5 jm hk2 hb2
   have C5:=fun k:ExtW w3=>k.cell hk3.out.c4
   go_wp2_with fail
   refine wp_region_ext_last (l:=[_,_,_,_,_,_,_,_,_,_,_,_,_,_]) (o:=_) (by kernel_rfl) (by kernel_rfl) (by kernel_rfl) (by kernel_rfl) ?_
   repeat (go_big_quiet_step (fail))
   refine wpQuiet_nil ?_
   intro k
   have hk4:=hide (hk3.out.quiet k.b)
   have y4:=hk4.out.c4
   have z4:=hk4.out.free 4
   have hnx:=hide (HMid.out k.w hk4.out).2
   go_wp2_with fail
   refine(must_yes _ _).mono ?_;rintro e w5 ⟨rfl,rfl⟩
   go_wp2_with fail
   go_ret
   exact⟨_,rfl,hnx.out.1,((NW.of_below hb3.out).trans (NW.of_below k.b)).trans hnx.out.2,(by first|trivial|rfl)⟩
  ·go_enter Tryz.func128,Tryz.ntmps128
   go_wp2_with fail
   refine HT.out.mono ?_;rintro e w1 ⟨rfl,h1⟩
   have hk1:=hide (h.out.quiet h1.out)
   obtain⟨_,_,_,j3,_⟩:=hk1.out.cells (g:=g) rfl hb
   have j5:=hk1.out.c4
   go_wp2_with fail
   go_quiet (fail)
   have hk2:=hide (hk1.out.quiet (below_dr (Below.refl _ _) nq))
   have hb2:=hide (below_dr h1.out nq)
   generalize w1.drewN nq=w2 at *
   clear j3 j5 hk1 h1 HT
   have j5:=hk2.out.c4
   have jm:=(HMid.out w2 hk2.out).1
   go_wp2_with fail
   go_quiet (fail)
   have hk3:=hide (hk2.out.quiet (below_dr (Below.refl _ _) nq))
   have hb3:=hide (below_dr hb2.out nq)
   generalize w2.drewN nq=w3 at *
   clear j5 jm hk2 hb2
   have C5:=fun k:ExtW w3=>k.cell hk3.out.c4
   go_wp2_with fail
   refine wp_region_ext_last (l:=[_,_,_,_,_,_,_,_,_,_,_,_,_,_]) (o:=_) (by kernel_rfl) (by kernel_rfl) (by kernel_rfl) (by kernel_rfl) ?_
   repeat (go_big_quiet_step (fail))
   refine wpQuiet_nil ?_
   intro k
   have hk4:=hide (hk3.out.quiet k.b)
   have y4:=hk4.out.c4
   have z4:=hk4.out.free 4
   have hnx:=hide (HMid.out k.w hk4.out).2
   go_wp2_with fail
   refine(must_yes _ _).mono ?_;rintro e w5 ⟨rfl,rfl⟩
   go_wp2_with fail
   go_ret
   exact⟨_,rfl,hnx.out.1,((NW.of_below hb3.out).trans (NW.of_below k.b)).trans hnx.out.2,(by first|trivial|rfl)⟩
  ·go_enter Tryz.func128,Tryz.ntmps128
   go_wp2_with fail
   refine HT.out.mono ?_;rintro e w1 ⟨rfl,h1⟩
   have hk1:=hide (h.out.quiet h1.out)
   obtain⟨_,_,_,j3,_⟩:=hk1.out.cells (g:=g) rfl hb
   have j5:=hk1.out.c4
   go_wp2_with fail
   go_quiet (fail)
   have hk2:=hide (hk1.out.quiet (below_dr (Below.refl _ _) nq))
   have hb2:=hide (below_dr h1.out nq)
   generalize w1.drewN nq=w2 at *
   clear j3 j5 hk1 h1 HT
   have j5:=hk2.out.c4
   have jm:=(HMid.out w2 hk2.out).1
   go_wp2_with fail
   go_quiet (fail)
   have hk3:=hide (hk2.out.quiet (below_dr (Below.refl _ _) nq))
   have hb3:=hide (below_dr hb2.out nq)
   generalize w2.drewN nq=w3 at *
   clear j5 jm hk2 hb2
   have C5:=fun k:ExtW w3=>k.cell hk3.out.c4
   go_wp2_with fail
   refine wp_region_ext_last (l:=[_,_,_,_,_,_,_,_,_,_,_,_,_,_]) (o:=_) (by kernel_rfl) (by kernel_rfl) (by kernel_rfl) (by kernel_rfl) ?_
   repeat (go_big_quiet_step (fail))
   refine wpQuiet_nil ?_
   intro k
   have hk4:=hide (hk3.out.quiet k.b)
   have y4:=hk4.out.c4
   have z4:=hk4.out.free 4
   have hnx:=hide (HMid.out k.w hk4.out).2
   go_wp2_with fail
   refine(must_yes _ _).mono ?_;rintro e w5 ⟨rfl,rfl⟩
   go_wp2_with fail
   go_ret
   exact⟨_,rfl,hnx.out.1,((NW.of_below hb3.out).trans (NW.of_below k.b)).trans hnx.out.2,(by first|trivial|rfl)⟩
  ·go_enter Tryz.func128,Tryz.ntmps128
   go_wp2_with fail
   refine HT.out.mono ?_;rintro e w1 ⟨rfl,h1⟩
   have hk1:=hide (h.out.quiet h1.out)
   obtain⟨_,_,_,j3,_⟩:=hk1.out.cells (g:=g) rfl hb
   have j5:=hk1.out.c4
   go_wp2_with fail
   go_quiet (fail)
   have hk2:=hide (hk1.out.quiet (below_dr (Below.refl _ _) nq))
   have hb2:=hide (below_dr h1.out nq)
   generalize w1.drewN nq=w2 at *
   clear j3 j5 hk1 h1 HT
   have j5:=hk2.out.c4
   have jm:=(HMid.out w2 hk2.out).1
   go_wp2_with fail
   go_quiet (fail)
   have hk3:=hide (hk2.out.quiet (below_dr (Below.refl _ _) nq))
   have hb3:=hide (below_dr hb2.out nq)
   generalize w2.drewN nq=w3 at *
   clear j5 jm hk2 hb2
   have C5:=fun k:ExtW w3=>k.cell hk3.out.c4
   go_wp2_with fail
   refine wp_region_ext_last (l:=[_,_,_,_,_,_,_,_,_,_,_,_,_,_]) (o:=_) (by kernel_rfl) (by kernel_rfl) (by kernel_rfl) (by kernel_rfl) ?_
   repeat (go_big_quiet_step (fail))
   refine wpQuiet_nil ?_
   intro k
   have hk4:=hide (hk3.out.quiet k.b)
   have y4:=hk4.out.c4
   have z4:=hk4.out.free 4
   have hnx:=hide (HMid.out k.w hk4.out).2
   go_wp2_with fail
   refine(must_yes _ _).mono ?_;rintro e w5 ⟨rfl,rfl⟩
   go_wp2_with fail
   go_ret
   exact⟨_,rfl,hnx.out.1,((NW.of_below hb3.out).trans (NW.of_below k.b)).trans hnx.out.2,(by first|trivial|rfl)⟩
def StQ (w:World) (K:KX) (vs vb:Value) (cs:List CB) (r:RR PS) (v:Value) (e:Ending) (w':World):Prop:=match r with
 | .ok s=>∃vs',e=.returned v∧Hid (CK w' K vs' vb cs s.st)∧Hid (NW w w' K.cb vs vb vs' vb)∧Hid (s.bl=cs.map CB.p)
 | .bad n=>e=flt n∧Hid (Bad w w' K vs vb)
theorem psOf_eq {cs:List CB} {s:PS} (h:s.bl=cs.map CB.p):psOf cs s.st=s:=by cases s;simp[psOf]at *;exact h.symm
set_option maxRecDepth 100000 in
set_option maxHeartbeats 1600000 in
theorem cpops_any (K:KX) (vs vb:Value) (cs:List CB) (st:List UInt8) (r:Sl UInt8) (w:World) (h:Hid (CK w K vs vb cs st)) (hr:Hid (ResIn w K vs vb r)) (hv:Hid (InvP (psOf cs st))) (hs:st.length≤10000000) (hcl:cs.length≤100000) (hrl:r.l.length≤100000) :
  Calls Tryz.prog 132 #[.pointer (some ⟨K.cb,0,none⟩),.slice r.at_ r.l.length r.cap] w (StQ w K vs vb cs (popsP (psOf cs st) r.l) (.tuple #[])):=by
 obtain⟨n,hn⟩:∃n,r.l.length=n:=⟨_,rfl⟩
 have HN:=hide hn
 obtain⟨R,hR⟩:∃R,popsP (psOf cs st) r.l=R:=⟨_,rfl⟩
 have HR:=hide hR
 rw[hR,hn]
 rw[hn]at hrl
 clear hR hn
 go_enter Tryz.func132,Tryz.ntmps132
 go_wp2_with fail
 go_loopw [4] (fun i w1=>∃(k:Nat) (vs1:Value) (s1:PS),i=.int .i64 ((k:Int)-1)∧k≤n∧Hid (CK w1 K vs1 vb cs s1.st)∧Hid (s1.bl=cs.map CB.p)∧Hid (InvP s1)∧s1.st.length≤10000000∧Hid (NW w w1 K.cb vs vb vs1 vb)∧Hid (popsR s1 (r.l.take k).reverse=R)) (fun i _=>(intOf i+1).toNat)
 case atStart=>exact⟨n,vs,psOf cs st,by go_num,Nat.le_refl _,h,rfl,hv,hs,NW.of_below (Below.refl _ _),by show _=_;rw[List.take_of_length_le (by rw[HN.out];exact Nat.le_refl _)];exact HR.out⟩
 case round =>
  obtain⟨k,vs1,s1,rfl,hk,hck,hbl,hinv,hs1,hnw,hpop⟩:=hrel
  cases k with
  | zero =>
   have hend:Hid (R=.ok s1):=by
    have:=hpop.out
    simp[popsR]at this
    exact this.symm
   clear hpop
   rw[hend.out]
   go_wp2_with fail
   go_end0
   exact⟨vs1,rfl,hck,hnw,hbl⟩
  | succ k =>
   obtain⟨t,ht⟩:∃t,r.l[k]?=some t:=⟨_,List.getElem?_eq_getElem (by rw[HN.out];omega)⟩
   have hri:=hr.out.step hnw.out
   obtain⟨ad,ha,_,q0,_⟩:=hri.row.at_ (fun _=>rfl) ht
   have q0':=q0 _ rfl (by omega)
   rw[Nat.mul_one]at q0'
   unfold B at q0'
   have e1:((k+1:Nat):Int)-1=(k:Int):=by omega
   have hst:(r.l.take (k+1)).reverse=t::(r.l.take k).reverse:=by rw[List.take_add_one,ht];simp
   have hstep:=hpop.out
   rw[hst]at hstep
   have HP:=hide (cpop_any K vs1 vb cs s1.st t wr hck (by rw[psOf_eq hbl.out];exact hinv.out) hs1 hcl)
   rw[psOf_eq hbl.out]at HP
   rw[e1,ha]
   have hpok:=fun q (hq:popP s1 t=.ok q)=>popP_ok hq hinv.out
   have hlt:(k:Int)<(n:Int):=by omega
   have HPK:=hide hpok
   clear hst q0 ha hri ht hpok hpop
   cases hq:popP s1 t with
   | bad m =>
    have hend:Hid (R=.bad m):=by
     rw[←hstep];show popsR s1 (t::_)=_;unfold popsR;rw[hq];rfl
    rw[hq]at HP
    simp only at HP
    clear hstep hq
    rw[hend.out]
    go_wp2_with fail
    refine HP.out.mono ?_;rintro e w5 ⟨rfl,h5⟩
    unfold flt
    go_wp2_with fail
    exact⟨rfl,rfl,(NW.bad hnw.out h5.out)⟩
   | ok q =>
    obtain⟨i1,i2,i3⟩:=HPK.out q hq
    have hnext:Hid (popsR q.1 (r.l.take k).reverse=R):=by
     show _=_
     rw[←hstep]
     conv=>rhs;unfold popsR
     rw[hq]
     rfl
    rw[hq]at HP
    simp only at HP
    have I1:=hide i1
    have I2:=hide i2
    clear hstep hq i1 i2 HPK
    go_wp2_with fail
    refine HP.out.mono ?_;rintro e w5 ⟨vs2,rfl,hck2,hnw2,hbl2⟩
    have HBL2:=hide hbl2
    clear HP hbl2 q0'
    go_wp2_with fail
    go_roundw
    case rel=>exact⟨k,vs2,q.1,by go_num,by omega,hck2,HBL2,I1,by omega,hnw.out.trans hnw2.out,hnext⟩
    case measure=>simp[intOf]<;>omega
section
variable {P:Program}
end
end Go.Proofs.YtmekgpdfiimofaaGreatDoor
