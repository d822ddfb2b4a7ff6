import Derived.Test.YtomppgohoplemaaGreatNAH
import Derived.Test.YtomppgohoplemaaGreatNBE
import Derived.Test.YtomppgohoplemaaGreatShelf
import Derived.Test.YtomppgohoplemaaGreatNAO
set_option linter.unusedVariables false
namespace Go.Proofs.YtomppgohoplemaaGreat
open Go.RowKit
def InfoPost2 (r:OpRow) (w:World) (e:Ending) (w':World):Prop :=
 ∃A1 c1 A2 c2,e=.returned (.agg #[.int .i64 r.code,.string r.name,.int .i64 r.form,.slice A1 r.takes.size c1,.slice A2 r.gives.size c2]) ∧
  Hid (w'.ownsRow w.heap.size 133 1 (.slice A1 r.takes.size c1) r.takes.size ((typesL r.takes).map B))∧Hid (w'.ownsRow w.heap.size 133 1 (.slice A2 r.gives.size c2) r.gives.size ((typesL r.gives).map B)) ∧
  Hid (∀q,(Value.slice A1 r.takes.size c1).ownBlock=some q→(Value.slice A2 r.gives.size c2).ownBlock≠some q)∧Hid (Below w.heap.size w w')
set_option maxRecDepth 100000 in
set_option maxHeartbeats 1600000 in
theorem info_any2 (r:OpRow) (hr:Hid r.Ok) (w:World) :
  Calls Tryz.prog 126 #[.agg #[.int .i64 r.code,.string r.name,.int .i64 r.form,.string r.takes,.string r.gives]] w (InfoPost2 r w):=by
 have H1:Hid (∀i (h:i<r.takes.size),(r.takes[i]).toNat<128):=hr.out.ta
 have H2:Hid (∀i (h:i<r.gives.size),(r.gives[i]).toNat<128):=hr.out.ga
 have hl1:r.takes.size≤1000:=by have:=hr.out.tl;omega
 have hl2:r.gives.size≤1000:=by have:=hr.out.gl;omega
 go_enter Tryz.func126,Tryz.ntmps126
 go_wp2_with fail
 obtain⟨W,hW⟩:∃W,((w.alloc (.cells #[.int .i64 r.code,.string r.name,.int .i64 r.form,.string r.takes,.string r.gives] 217)).alloc (.cells #[.int .i64 0,.string ⟨#[]⟩,.int .i64 0,.slice none 0 0,.slice none 0 0] 199))=W:=⟨_,rfl⟩
 have hbW:Below w.heap.size w W:=by rw[←hW];exact((Below.refl _ _).alloc (Nat.le_refl _) _).alloc (by simp) _
 obtain⟨gb,hgb⟩:∃gb,w.heap.size=gb:=⟨_,rfl⟩
 have hblk:W.heap[gb]?=some (.cells #[.int .i64 r.code,.string r.name,.int .i64 r.form,.string r.takes,.string r.gives] 217 (0,0)):=by
  rw[←hW,←hgb,Below.heap_alloc _ _ _ (by simp)]
  exact heap_alloc_new w _
 have hblk2:W.heap[gb+1]?=some (.cells #[.int .i64 0,.string ⟨#[]⟩,.int .i64 0,.slice none 0 0,.slice none 0 0] 199 (0,0)):=by
  rw[←hW,←hgb]
  have:=heap_alloc_new (w.alloc (.cells #[.int .i64 r.code,.string r.name,.int .i64 r.form,.string r.takes,.string r.gives] 217)) (.cells #[.int .i64 0,.string ⟨#[]⟩,.int .i64 0,.slice none 0 0,.slice none 0 0] 199)
  simpa using this
 have hsz:W.heap.size=gb+2:=by rw[←hW,←hgb];simp
 rw[hW,hgb]
 rw[hgb]at hbW
 have HB:=hide hbW
 have HG:=hide hgb
 have HSZ:=hide hsz
 have HCC:CellsOf W (gb+2) gb _:=CellsOf.of hblk (by omega)
 have HK2:=hide hblk2
 clear hbW hW hgb hsz hblk hblk2
 refine wp_region_lastG grew_ext (c1:=8) (c2:=11) (G:=fun v1 v2 _=>∀q,v1.ownBlock=some q→v2.ownBlock≠some q) (fun _ _ _ _ _ h=>h) (by decide) (l:=[_,_,_,_,_,_,_,_,_,_,_,_,_]) (o:=_) (factsOf [fun yy _=>yy=.pointer (some ⟨gb,0,none⟩),
  fun yy _=>yy=.int .i64 r.code,
  fun yy _=>yy=.pointer (some ⟨gb,1,none⟩),
  fun yy _=>yy=.string r.name,
  fun yy _=>yy=.pointer (some ⟨gb,2,none⟩),
  fun yy _=>yy=.int .i64 r.form,
  fun yy _=>yy=.pointer (some ⟨gb,3,none⟩),
  fun yy _=>yy=.string r.takes,
  fun yy WW=>∃A1 c1,yy=.slice A1 r.takes.size c1∧WW.ownsRow (gb+2) 133 1 (.slice A1 r.takes.size c1) r.takes.size ((typesL r.takes).map B),
  fun yy _=>yy=.pointer (some ⟨gb,4,none⟩),
  fun yy _=>yy=.string r.gives,
  fun yy WW=>∃A1 c1,yy=.slice A1 r.gives.size c1∧WW.ownsRow (gb+2) 133 1 (.slice A1 r.gives.size c1) r.gives.size ((typesL r.gives).map B),
  fun yy WW=>∃A1 c1 A2 c2,yy=.agg #[.int .i64 r.code,.string r.name,.int .i64 r.form,.slice A1 r.takes.size c1,.slice A2 r.gives.size c2]∧WW.ownsRow (gb+2) 133 1 (.slice A1 r.takes.size c1) r.takes.size ((typesL r.takes).map B)∧WW.ownsRow (gb+2) 133 1 (.slice A2 r.gives.size c2) r.gives.size ((typesL r.gives).map B)∧(∀q,(Value.slice A1 r.takes.size c1).ownBlock=some q→(Value.slice A2 r.gives.size c2).ownBlock≠some q)]) (by kernel_rfl) (by kernel_rfl) (by kernel_rfl) (by kernel_rfl) ?_ ?_
 ·refine⟨?_,?_,?_,?_,?_,?_,?_,?_,?_,?_,?_,?_,?_,trivial⟩
  ·refine⟨fun ρ W hk hj=>?_⟩
   have o1:ρ (.tmp 1)=.pointer (some ⟨gb,0,none⟩):=hk.old 1 (by decide)
   exact OpOut.fieldAddr (x:=.tmp 1) rfl o1 (by go_simp) ⟨Below.refl _ _,rfl,⟨fun e=>absurd e (by decide),fun e=>absurd e (by decide)⟩⟩
  ·refine⟨fun ρ W hk hj=>?_⟩
   have h0:=(hk.fact 0 3 (by decide) rfl).pure
   have hc:=HCC.out W hk.below 0 (.int .i64 r.code) rfl
   exact OpOut.load (x:=.tmp 3) rfl h0 (by go_simp) ⟨Below.refl _ _,rfl,⟨fun e=>absurd e (by decide),fun e=>absurd e (by decide)⟩⟩
  ·refine⟨fun ρ W hk hj=>?_⟩
   have o1:ρ (.tmp 1)=.pointer (some ⟨gb,0,none⟩):=hk.old 1 (by decide)
   exact OpOut.fieldAddr (x:=.tmp 1) rfl o1 (by go_simp) ⟨Below.refl _ _,rfl,⟨fun e=>absurd e (by decide),fun e=>absurd e (by decide)⟩⟩
  ·refine⟨fun ρ W hk hj=>?_⟩
   have h2:=(hk.fact 2 5 (by decide) rfl).pure
   have hc:=HCC.out W hk.below 1 (.string r.name) rfl
   exact OpOut.load (x:=.tmp 5) rfl h2 (by go_simp) ⟨Below.refl _ _,rfl,⟨fun e=>absurd e (by decide),fun e=>absurd e (by decide)⟩⟩
  ·refine⟨fun ρ W hk hj=>?_⟩
   have o1:ρ (.tmp 1)=.pointer (some ⟨gb,0,none⟩):=hk.old 1 (by decide)
   exact OpOut.fieldAddr (x:=.tmp 1) rfl o1 (by go_simp) ⟨Below.refl _ _,rfl,⟨fun e=>absurd e (by decide),fun e=>absurd e (by decide)⟩⟩
  ·refine⟨fun ρ W hk hj=>?_⟩
   have h4:=(hk.fact 4 7 (by decide) rfl).pure
   have hc:=HCC.out W hk.below 2 (.int .i64 r.form) rfl
   exact OpOut.load (x:=.tmp 7) rfl h4 (by go_simp) ⟨Below.refl _ _,rfl,⟨fun e=>absurd e (by decide),fun e=>absurd e (by decide)⟩⟩
  ·refine⟨fun ρ W hk hj=>?_⟩
   have o1:ρ (.tmp 1)=.pointer (some ⟨gb,0,none⟩):=hk.old 1 (by decide)
   exact OpOut.fieldAddr (x:=.tmp 1) rfl o1 (by go_simp) ⟨Below.refl _ _,rfl,⟨fun e=>absurd e (by decide),fun e=>absurd e (by decide)⟩⟩
  ·refine⟨fun ρ W hk hj=>?_⟩
   have h6:=(hk.fact 6 9 (by decide) rfl).pure
   have hc:=HCC.out W hk.below 3 (.string r.takes) rfl
   exact OpOut.load (x:=.tmp 9) rfl h6 (by go_simp) ⟨Below.refl _ _,rfl,⟨fun e=>absurd e (by decide),fun e=>absurd e (by decide)⟩⟩
  ·refine⟨fun ρ W hk hj=>?_⟩
   have h7:=(hk.fact 7 10 (by decide) rfl).pure
   refine OpOut.fn (args:=#[.string r.takes]) rfl (hk.func _) (by simp[h7]) Tryz.func148 (by kernel_rfl) rfl ?_
   have hz:=HCC.size W hk.below
   refine(opTypes_any r.takes W H1 hl1).mono ?_;rintro e w5 ⟨A5,c5,rfl,ho5,hb5⟩
   exact⟨_,rfl,hb5.out,⟨A5,c5,rfl,own_base ho5.out (fun q hq=>by have:=own_ge ho5.out q hq;omega)⟩,⟨fun _ v2 hv2=>by
    obtain⟨V,hV,A6,c6,rfl,ho6⟩:=hv2
    intro q hq hq2
    have:=own_lt ho6 q hq2
    have:=own_ge ho5.out q hq
    have:=hV.size
    omega,fun e=>absurd e (by decide)⟩⟩
  ·refine⟨fun ρ W hk hj=>?_⟩
   have o1:ρ (.tmp 1)=.pointer (some ⟨gb,0,none⟩):=hk.old 1 (by decide)
   exact OpOut.fieldAddr (x:=.tmp 1) rfl o1 (by go_simp) ⟨Below.refl _ _,rfl,⟨fun e=>absurd e (by decide),fun e=>absurd e (by decide)⟩⟩
  ·refine⟨fun ρ W hk hj=>?_⟩
   have h9:=(hk.fact 9 12 (by decide) rfl).pure
   have hc:=HCC.out W hk.below 4 (.string r.gives) rfl
   exact OpOut.load (x:=.tmp 12) rfl h9 (by go_simp) ⟨Below.refl _ _,rfl,⟨fun e=>absurd e (by decide),fun e=>absurd e (by decide)⟩⟩
  ·refine⟨fun ρ W hk hj=>?_⟩
   have h10:=(hk.fact 10 13 (by decide) rfl).pure
   refine OpOut.fn (args:=#[.string r.gives]) rfl (hk.func _) (by simp[h10]) Tryz.func148 (by kernel_rfl) rfl ?_
   have hz:=HCC.size W hk.below
   refine(opTypes_any r.gives W H2 hl2).mono ?_;rintro e w5 ⟨A5,c5,rfl,ho5,hb5⟩
   exact⟨_,rfl,hb5.out,⟨A5,c5,rfl,own_base ho5.out (fun q hq=>by have:=own_ge ho5.out q hq;omega)⟩,⟨fun e=>absurd e (by decide),fun _ v1 hv1=>by
    obtain⟨V,hV,A6,c6,rfl,ho6⟩:=hv1
    intro q hq hq2
    have:=own_lt ho6 q hq
    have:=own_ge ho5.out q hq2
    have:=hV.size
    omega⟩⟩
  ·refine⟨fun ρ W hk hj=>?_⟩
   have h1:=(hk.fact 1 4 (by decide) rfl).pure
   have h3:=(hk.fact 3 6 (by decide) rfl).pure
   have h5:=(hk.fact 5 8 (by decide) rfl).pure
   obtain⟨w8,hw8,A8,c8,h8,ho8⟩:=hk.fact 8 11 (by decide) rfl
   obtain⟨w11,hw11,A11,c11,h11,ho11⟩:=hk.fact 11 14 (by decide) rfl
   exact OpOut.build (us:=#[(0,.int .i64 r.code),(1,.string r.name),(2,.int .i64 r.form),(3,.slice A8 r.takes.size c8),(4,.slice A11 r.gives.size c11)]) rfl (by simp[h1,h3,h5,h8,h11]) (by go_simp) ⟨Below.refl _ _,⟨A8,c8,A11,c11,rfl,own_only3 (S:=[]) ho8 (Only.of_below hw8) (by simp),own_only3 (S:=[]) ho11 (Only.of_below hw11) (by simp),by have:=hj (by decide) (by decide) 11 14 rfl rfl;rw[h8,h11]at this;exact this⟩,⟨fun e=>absurd e (by decide),fun e=>absurd e (by decide)⟩⟩
 ·intro vs W2 hb hf
  obtain⟨w12,hw12,A1,c1,A2,c2,h12,ho1,ho2,hap⟩:=hf 12 (by decide)
  have HAP:=hide hap
  clear hap
  clear hf
  simp only[fillL]
  rw[h12]
  generalize vs 0=v0,vs 1=v1,vs 2=v2,vs 3=v3,vs 4=v4,vs 5=v5,vs 6=v6,vs 7=v7,vs 8=v8,vs 9=v9,vs 10=v10,vs 11=v11
  have hown1:=hide (own_only3 (S:=[]) ho1 (Only.of_below hw12) (by simp))
  have hown2:=hide (own_only3 (S:=[]) ho2 (Only.of_below hw12) (by simp))
  clear hw12 ho1 ho2
  have hsz2:=hb.size
  rw[HSZ.out]at hsz2
  have hblk3:=(hb.block (gb+1) (by rw[HSZ.out];omega)).trans HK2.out
  have e0:W2.cell? ⟨gb+1,0,none⟩=some (.int .i64 0):=cell_blk hblk3 0
  have e1:W2.cell? ⟨gb+1,1,none⟩=some (.string ⟨#[]⟩):=cell_blk hblk3 1
  have e2:W2.cell? ⟨gb+1,2,none⟩=some (.int .i64 0):=cell_blk hblk3 2
  have e3:W2.cell? ⟨gb+1,3,none⟩=some (.slice none 0 0):=cell_blk hblk3 3
  have e4:W2.cell? ⟨gb+1,4,none⟩=some (.slice none 0 0):=cell_blk hblk3 4
  have z0:=frozen_blk hblk3 0
  have z1:=frozen_blk hblk3 1
  have z2:=frozen_blk hblk3 2
  have z3:=frozen_blk hblk3 3
  have z4:=frozen_blk hblk3 4
  clear hblk3 h12
  go_frame
  go_wp2_with fail
  have hs5:∀(V:World) (i:Nat) (x:Value),Only [gb+1] V (V.setCell ⟨gb+1,i,none⟩ x):=fun V i x=>Only.setCell V (p:=⟨gb+1,i,none⟩) (by simp) x
  have ho5:=(((((hs5 W2 0 (.int .i64 r.code))).trans (hs5 _ 1 (.string r.name))).trans (hs5 _ 2 (.int .i64 r.form))).trans (hs5 _ 3 (.slice A1 r.takes.size c1))).trans (hs5 _ 4 (.slice A2 r.gives.size c2))
  have hblk4:=(hb.block (gb+1) (by rw[HSZ.out];omega)).trans HK2.out
  have hbF:=setCell_blk (setCell_blk (setCell_blk (setCell_blk (setCell_blk hblk4 0 (.int .i64 r.code)) 1 (.string r.name)) 2 (.int .i64 r.form)) 3 (.slice A1 r.takes.size c1)) 4 (.slice A2 r.gives.size c2)
  generalize ((((W2.setCell ⟨gb+1,0,none⟩ (.int .i64 r.code)).setCell ⟨gb+1,1,none⟩ (.string r.name)).setCell ⟨gb+1,2,none⟩ (.int .i64 r.form)).setCell ⟨gb+1,3,none⟩ (.slice A1 r.takes.size c1)).setCell ⟨gb+1,4,none⟩ (.slice A2 r.gives.size c2)=Wf at ho5 hbF ⊢
  clear e0 e1 e2 e3 e4 z0 z1 z2 z3 z4
  have f0:Wf.cell? ⟨gb+1,0,none⟩=some (.int .i64 r.code):=cell_blk hbF 0
  have f1:Wf.cell? ⟨gb+1,1,none⟩=some (.string r.name):=cell_blk hbF 1
  have f2:Wf.cell? ⟨gb+1,2,none⟩=some (.int .i64 r.form):=cell_blk hbF 2
  have f3:Wf.cell? ⟨gb+1,3,none⟩=some (.slice A1 r.takes.size c1):=cell_blk hbF 3
  have f4:Wf.cell? ⟨gb+1,4,none⟩=some (.slice A2 r.gives.size c2):=cell_blk hbF 4
  refine bodyPost_ret (v:=.agg #[.int .i64 r.code,.string r.name,.int .i64 r.form,.slice A1 r.takes.size c1,.slice A2 r.gives.size c2]) (by simp[results,Tryz.results126,go_sem,f0,f1,f2,f3,f4]) rfl ?_
  have hl:∀{v:Value} {n:Nat} {xs:List Value},W2.ownsRow (gb+2) 133 1 v n xs→Wf.ownsRow w.heap.size 133 1 v n xs:=fun h=>by
   have h9:=own_only3 h ho5 (fun g hg=>by have:=own_ge h g hg;simp;omega)
   exact own_base h9 (fun g hg=>by have:=own_ge h g hg;rw[HG.out];omega)
  refine⟨A1,c1,A2,c2,rfl,hl hown1.out,hl hown2.out,HAP,?_⟩
  have h9:Below gb w W2:=HB.out.trans (hb.mono (by rw[HSZ.out];omega))
  have h10:=h9.size
  rw[HG.out]at h10 ⊢
  exact h9.trans (ho5.below h10 (by simp))
def FindSome2 (r:OpRow) (w:World) (e:Ending) (w':World):Prop :=
 ∃A1 c1 A2 c2,e=.returned (.tuple #[.agg #[.int .i64 r.code,.string r.name,.int .i64 r.form,.slice A1 r.takes.size c1,.slice A2 r.gives.size c2],.bool true]) ∧
  Hid (w'.ownsRow w.heap.size 133 1 (.slice A1 r.takes.size c1) r.takes.size ((typesL r.takes).map B))∧Hid (w'.ownsRow w.heap.size 133 1 (.slice A2 r.gives.size c2) r.gives.size ((typesL r.gives).map B)) ∧
  Hid (∀q,(Value.slice A1 r.takes.size c1).ownBlock=some q→(Value.slice A2 r.gives.size c2).ownBlock≠some q)∧Hid (Below w.heap.size w w')
set_option maxHeartbeats 1600000 in
theorem find_some2 (c:Int) (r:OpRow) (w:World) (h1:-9223372036854775808≤c) (h2:c≤9223372036854775807) (hv:opRow c=some r) :
  Calls Tryz.prog 106 #[.int .i64 c] w (FindSome2 r w):=by
 have HAT:=hide (fun w=>opAt_any c w h1 h2)
 rw[hv]at HAT
 have HIN:=hide (fun w=>info_any2 r (hide (opRow_ok hv)) w)
 clear hv
 obtain⟨g,hg⟩:∃g,w.heap.size=g:=⟨_,rfl⟩
 obtain⟨W,hW⟩:∃W,w.alloc (.cells #[.int .i64 0,.string ⟨#[]⟩,.int .i64 0,.slice none 0 0,.slice none 0 0] 199)=W:=⟨_,rfl⟩
 have hblk:W.heap[g]?=some (.cells #[.int .i64 0,.string ⟨#[]⟩,.int .i64 0,.slice none 0 0,.slice none 0 0] 199 (0,0)):=by rw[←hW,←hg];exact heap_alloc_new w _
 have hb0:Below g w W:=by rw[←hW,←hg];exact(Below.refl _ _).alloc (Nat.le_refl _) _
 have HBLK:=hide hblk;clear hblk
 have HB0:=hide hb0;clear hb0
 have HW:=hide hW;clear hW
 have HG:=hide hg;clear hg
 go_enter Tryz.func106,Tryz.ntmps106
 go_wp2_with fail
 rw[HW.out,HG.out]
 refine(HAT.out _).mono ?_;rintro e w1 ⟨rfl,hb1⟩
 rw[rowV_some]
 have blk1:=hide ((hb1.out.block g (blk_lt HBLK.out)).trans HBLK.out)
 have hbel:Hid (Below g w w1):=HB0.out.trans (hb1.out.mono (Nat.le_of_lt (blk_lt HBLK.out)))
 go_wp2_with fail
 refine(HIN.out _).mono ?_;rintro e w2 ⟨A1,c1,A2,c2,rfl,ho1,ho2,hap,hb2⟩
 have hsz1:=Nat.le_of_lt (blk_lt blk1.out)
 have hb2':Hid (Below w1.heap.size w1 w2):=((Below.refl _ _).alloc (Nat.le_refl _) _).trans (hb2.out.mono (by simp))
 have blk2:=hide ((hb2'.out.block g (blk_lt blk1.out)).trans blk1.out)
 have hbel2:Hid (Below g w w2):=hbel.out.trans (hb2'.out.mono hsz1)
 have hgw:=blk_lt blk1.out
 have hn1:Hid (∀q,(Value.slice A1 r.takes.size c1).ownBlock=some q→g<q):=fun q hq=>by have:=own_ge ho1.out q hq;simp at this;omega
 have hn2:Hid (∀q,(Value.slice A2 r.gives.size c2).ownBlock=some q→g<q):=fun q hq=>by have:=own_ge ho2.out q hq;simp at this;omega
 go_wp2_with (refine wpList_store_row rfl 199 _ _ rfl g #[.int .i64 r.code,.string r.name,.int .i64 r.form,.slice A1 r.takes.size c1,.slice A2 r.gives.size c2] rfl rfl 199 _ blk2.out (by kernel_rfl) rfl (by simp[Value.oneCell']) ?_)
 have k1:=setRow_blk (cs:=#[.int .i64 r.code,.string r.name,.int .i64 r.form,.slice A1 r.takes.size c1,.slice A2 r.gives.size c2]) blk2.out
 have k3:=setRow_only w2 g #[.int .i64 r.code,.string r.name,.int .i64 r.form,.slice A1 r.takes.size c1,.slice A2 r.gives.size c2]
 have k2:Below g w _:=hbel2.out.trans (k3.below (Nat.le_of_lt (blk_lt blk2.out)) (by simp))
 generalize w2.setRow g #[.int .i64 r.code,.string r.name,.int .i64 r.form,.slice A1 r.takes.size c1,.slice A2 r.gives.size c2]=W2 at k1 k2 k3 ⊢
 have f0:W2.cell? ⟨g,0,none⟩=some (.int .i64 r.code):=cell_blk k1 0
 have f1:W2.cell? ⟨g,1,none⟩=some (.string r.name):=cell_blk k1 1
 have f2:W2.cell? ⟨g,2,none⟩=some (.int .i64 r.form):=cell_blk k1 2
 have f3:W2.cell? ⟨g,3,none⟩=some (.slice A1 r.takes.size c1):=cell_blk k1 3
 have f4:W2.cell? ⟨g,4,none⟩=some (.slice A2 r.gives.size c2):=cell_blk k1 4
 refine bodyPost_ret (v:=.tuple #[.agg #[.int .i64 r.code,.string r.name,.int .i64 r.form,.slice A1 r.takes.size c1,.slice A2 r.gives.size c2],.bool true]) (by simp[results,Tryz.results106,go_sem,f0,f1,f2,f3,f4]) rfl ?_
 refine⟨A1,c1,A2,c2,rfl,?_,?_,hap,by rw[HG.out];exact k2⟩
 ·exact own_base (own_only3 ho1.out k3 (fun q hq=>by have:=hn1.out q hq;simp;omega)) (fun q hq=>by have:=hn1.out q hq;rw[HG.out];omega)
 ·exact own_base (own_only3 ho2.out k3 (fun q hq=>by have:=hn2.out q hq;simp;omega)) (fun q hq=>by have:=hn2.out q hq;rw[HG.out];omega)
def cutR (s:List UInt8):List UInt8:=(Lib.cut s [46]).2.1
def trimA (s:List UInt8):List UInt8:=Lib.trimSuffix (cutR s) [95,115]
def restN (s:List UInt8):List UInt8:=Lib.trimSuffix (trimA s) [95,117]
def widthN (s:List UInt8):Nat :=
 if Lib.hasSuffix (restN s) [56]then 1 else if Lib.hasSuffix (restN s) [49,54]then 2 else if Lib.hasSuffix (restN s) [51,50]then 4 else if Lib.hasPrefix s [105,54,52]then 8 else 4
def widB (r:OpRow):Bool:=decide (r.name.data.toList.length≤40)&&(decide ((cutR r.name.data.toList).length≤40)&&(decide ((trimA r.name.data.toList).length≤40)&&decide ((restN r.name.data.toList).length≤40)))
theorem wid_rows:(∀r∈opRows1,widB r=true)∧(∀r∈opRows2,widB r=true):=by decide +kernel
theorem spanRow_form (s:OpSpan) (c:Int):(spanRow s c).form≠8:=by
 unfold spanRow
 generalize (s.bits==64)=q
 split
 ·cases q<;>simp
 ·split
  ·cases q<;>simp
  ·split<;>cases q<;>simp
theorem wid_ok {c:Int} {r:OpRow} (h:opRow c=some r) (hf:r.form=8):widB r=true:=by
 unfold opRow at h
 cases h1:opRows1.find? (fun r=>r.code==c) with
 | some x=>rw[h1]at h;simp at h;subst h;exact wid_rows.1 _ (List.mem_of_find?_eq_some h1)
 | none =>
  rw[h1]at h
  cases h2:opRows2.find? (fun r=>r.code==c) with
  | some x=>rw[h2]at h;simp at h;subst h;exact wid_rows.2 _ (List.mem_of_find?_eq_some h2)
  | none =>
   rw[h2]at h
   simp only[Option.none_or]at h
   unfold numRow at h
   cases h3:numSpan c with
   | none=>rw[h3]at h;cases h
   | some s=>rw[h3]at h;simp at h;subst h;exact absurd hf (spanRow_form s c)
def widFrom (s:List UInt8):Nat→Nat
 | 0=>widthN s
 | 1=>if Lib.hasSuffix (restN s) [49,54]then 2 else if Lib.hasSuffix (restN s) [51,50]then 4 else if Lib.hasPrefix s [105,54,52]then 8 else 4
 | 2=>if Lib.hasSuffix (restN s) [51,50]then 4 else if Lib.hasPrefix s [105,54,52]then 8 else 4
 | _=>if Lib.hasPrefix s [105,54,52]then 8 else 4
set_option maxRecDepth 100000 in
set_option maxHeartbeats 3200000 in
theorem cwidth_any (c:Int) (r:OpRow) (w:World) (m:Int) (h1:-9223372036854775808≤c) (h2:c≤9223372036854775807) (hv:opRow c=some r) (hf:r.form=8) (hm:Hid (w.cell? ⟨0,0,none⟩=some (.int .i64 m))) :
  Calls Tryz.prog 140 #[.int .i64 c] w fun e w'=>e=.returned (.tuple #[.int .i64 (widthN r.name.data.toList:Int),.bool true])∧Hid (Below w.heap.size w w'):=by
 have HF:=hide (find_some c r w h1 h2 hv)
 have hwb:=wid_ok hv hf
 unfold widB at hwb
 simp only[Bool.and_eq_true,decide_eq_true_eq]at hwb
 obtain⟨b1,b2,b3,b4⟩:=hwb
 obtain⟨rc,rn,rf,rt,rg⟩:=r
 simp only at hf b1 b2 b3 b4 HF ⊢
 subst hf
 unfold FindSome at HF
 simp only at HF
 obtain⟨nm,hnm⟩:∃nm,rn.data.toList=nm:=⟨_,rfl⟩
 have hrn:rn=⟨nm.toArray⟩:=by rw[←hnm]
 subst hrn
 simp only at hnm b1 b2 b3 b4
 obtain⟨N,hN⟩:∃N,widthN nm=N:=⟨_,rfl⟩
 rw[hN]
 have HN:Hid (widFrom nm 0=N):=hN
 obtain⟨q1,hq1⟩:∃q,cutR nm=q:=⟨_,rfl⟩
 obtain⟨q2,hq2⟩:∃q,trimA nm=q:=⟨_,rfl⟩
 obtain⟨q3,hq3⟩:∃q,restN nm=q:=⟨_,rfl⟩
 have e2:Lib.trimSuffix q1 [95,115]=q2:=by rw[←hq1,←hq2];rfl
 have e3:Lib.trimSuffix q2 [95,117]=q3:=by rw[←hq2,←hq3];rfl
 rw[hq1]at b2;rw[hq2]at b3;rw[hq3]at b4
 obtain⟨qa,hqa⟩:∃q,(Lib.cut nm [46]).1=q:=⟨_,rfl⟩
 obtain⟨qc,hqc⟩:∃q,(Lib.cut nm [46]).2.2=q:=⟨_,rfl⟩
 have HC:=hide (fun (V:World) (hV:V.cell? ⟨0,0,none⟩=some (.int .i64 m))=>(Tryz.strings_Cut ⟨nm.toArray⟩ ⟨#[46]⟩ m V (by show nm.toArray.size<_;simp;omega) hV))
 rw[show (⟨nm.toArray⟩:ByteArray).data.toList=nm from rfl,show (⟨#[46]⟩:ByteArray).data.toList=[46]from rfl,hqa,hqc,show (Lib.cut nm [46]).2.1=q1 from hq1]at HC
 have HT1:=hide (fun (V:World)=>Tryz.strings_TrimSuffix ⟨q1.toArray⟩ ⟨#[95,115]⟩ V (by show q1.toArray.size≤_;simp;omega))
 rw[show (⟨q1.toArray⟩:ByteArray).data.toList=q1 from rfl,show (⟨#[95,115]⟩:ByteArray).data.toList=[95,115]from rfl,e2]at HT1
 have HT2:=hide (fun (V:World)=>Tryz.strings_TrimSuffix ⟨q2.toArray⟩ ⟨#[95,117]⟩ V (by show q2.toArray.size≤_;simp;omega))
 rw[show (⟨q2.toArray⟩:ByteArray).data.toList=q2 from rfl,show (⟨#[95,117]⟩:ByteArray).data.toList=[95,117]from rfl,e3]at HT2
 have HS:=hide (fun (V:World) (sf:ByteArray)=>Tryz.strings_HasSuffix ⟨q3.toArray⟩ sf V (by show q3.toArray.size≤_;simp;omega))
 rw[show (⟨q3.toArray⟩:ByteArray).data.toList=q3 from rfl]at HS
 have HP:=hide (fun (V:World)=>Tryz.strings_HasPrefix ⟨nm.toArray⟩ ⟨#[105,54,52]⟩ V)
 rw[show (⟨nm.toArray⟩:ByteArray).data.toList=nm from rfl,show (⟨#[105,54,52]⟩:ByteArray).data.toList=[105,54,52]from rfl]at HP
 have HQ3:=hide hq3
 clear hv hnm hN hq1 hq2 hq3 hqa hqc e2 e3
 go_enter Tryz.func140,Tryz.ntmps140
 go_wp2_with fail
 refine HF.out.mono ?_;rintro e w1 ⟨A1,c1,A2,c2,rfl,ho1,ho2,hb1⟩
 obtain⟨W,hW,hbW,hxW,hsW⟩:=box_new w1 #[.int .i64 rc,.string ⟨nm.toArray⟩,.int .i64 8,.slice A1 rt.size c1,.slice A2 rg.size c2] 199
 obtain⟨xg,hxg⟩:∃xg,w1.heap.size=xg:=⟨_,rfl⟩
 rw[hxg]at hxW
 have HBW:Hid (Below w.heap.size w W):=hb1.out.trans (hbW.mono hb1.out.size)
 have HXW:=hide hxW;have HW:=hide hW;have HXG:=hide hxg
 clear hW hbW hxW hsW hxg HF
 go_upto_region 2 with fail
 rw[HW.out,HXG.out]
 have d1:W.cell? ⟨xg,1,none⟩=some (.string ⟨nm.toArray⟩):=cell_blk HXW.out 1
 have d2:W.cell? ⟨xg,2,none⟩=some (.int .i64 8):=cell_blk HXW.out 2
 go_wp2_with fail
 go_loopw [24] (fun i w2=>∃k:Nat,i=.int .i64 (k:Int)∧k≤3∧Hid (widFrom nm k=N)∧Hid (Below W.heap.size W w2)) (fun i _=>3-(intOf i).toNat)
 case atStart=>exact⟨0,rfl,by omega,HN,Below.refl _ _⟩
 case round =>
  obtain⟨k,rfl,hk,hN2,hb2⟩:=hrel
  have hd1:wr.cell? ⟨xg,1,none⟩=some (.string ⟨nm.toArray⟩):=(hb2.out.cell (blk_lt HXW.out)).trans d1
  have hbr:=hide (HBW.out.trans (hb2.out.mono HBW.out.size))
  have hmr:wr.cell? ⟨0,0,none⟩=some (.int .i64 m):=(hbr.out.cell (World.block_lt_of_cell? w _ hm.out)).trans hm.out
  have HMR:=hide hmr
  clear d1 d2 hmr
  rcases(show k=0∨k=1∨k=2∨k=3 from by omega)with rfl|rfl|rfl|rfl
  ·have hix:∀V:World,Sem.run Tryz.prog (Instr.index 241 (.agg #[.string ⟨#[56]⟩,.string ⟨#[49,54]⟩,.string ⟨#[51,50]⟩]) (.int .i64 0)) V=.ok (.string ⟨#[56]⟩) V:=fun _=>rfl
   have HSk:=hide (fun V=>HS.out V ⟨#[56]⟩)
   rw[show (⟨#[56]⟩:ByteArray).data.toList=[56]from rfl]at HSk
   cases hsx:Lib.hasSuffix q3 [56] with
   | true =>
    rw[hsx]at HSk
    have hfin:Hid (N=1):=by
     show _=_
     rw[←hN2.out]
     simp only[widFrom,widthN]
     rw[HQ3.out,hsx];rfl
    clear hsx
    go_wp2_with fail
    refine(HC.out _ HMR.out).mono ?_;rintro e w5 ⟨rfl,n5,rfl⟩
    go_wp2_with fail
    refine(HT1.out _).mono ?_;rintro e w6 ⟨rfl,rfl⟩
    go_wp2_with fail
    refine(HT2.out _).mono ?_;rintro e w7 ⟨rfl,rfl⟩
    go_wp2_with fail
    refine(HSk.out _).mono ?_;rintro e w8 ⟨rfl,rfl⟩
    go_wp2_with fail
    refine bodyPost_ret (v:=.tuple #[.int .i64 1,.bool true]) (by simp[results,Tryz.results140,go_sem]) rfl ⟨by rw[hfin.out];rfl,below_dr hbr.out _⟩
   | false =>
    rw[hsx]at HSk
    have hnext:Hid (widFrom nm 1=N):=by
     show _=_
     rw[←hN2.out]
     simp only[widFrom,widthN]
     rw[HQ3.out,hsx];rfl
    clear hsx
    go_wp2_with fail
    refine(HC.out _ HMR.out).mono ?_;rintro e w5 ⟨rfl,n5,rfl⟩
    go_wp2_with fail
    refine(HT1.out _).mono ?_;rintro e w6 ⟨rfl,rfl⟩
    go_wp2_with fail
    refine(HT2.out _).mono ?_;rintro e w7 ⟨rfl,rfl⟩
    go_wp2_with fail
    refine(HSk.out _).mono ?_;rintro e w8 ⟨rfl,rfl⟩
    go_wp2_with fail
    go_roundw
    case rel=>exact⟨1,by go_num,by omega,hnext,below_dr hb2.out _⟩
    case measure=>simp[intOf]
  ·have hix:∀V:World,Sem.run Tryz.prog (Instr.index 241 (.agg #[.string ⟨#[56]⟩,.string ⟨#[49,54]⟩,.string ⟨#[51,50]⟩]) (.int .i64 1)) V=.ok (.string ⟨#[49,54]⟩) V:=fun _=>rfl
   have HSk:=hide (fun V=>HS.out V ⟨#[49,54]⟩)
   rw[show (⟨#[49,54]⟩:ByteArray).data.toList=[49,54]from rfl]at HSk
   cases hsx:Lib.hasSuffix q3 [49,54] with
   | true =>
    rw[hsx]at HSk
    have hfin:Hid (N=2):=by
     show _=_
     rw[←hN2.out]
     simp only[widFrom]
     rw[HQ3.out,hsx];rfl
    clear hsx
    go_wp2_with fail
    refine(HC.out _ HMR.out).mono ?_;rintro e w5 ⟨rfl,n5,rfl⟩
    go_wp2_with fail
    refine(HT1.out _).mono ?_;rintro e w6 ⟨rfl,rfl⟩
    go_wp2_with fail
    refine(HT2.out _).mono ?_;rintro e w7 ⟨rfl,rfl⟩
    go_wp2_with fail
    refine(HSk.out _).mono ?_;rintro e w8 ⟨rfl,rfl⟩
    go_wp2_with fail
    refine bodyPost_ret (v:=.tuple #[.int .i64 2,.bool true]) (by simp[results,Tryz.results140,go_sem]) rfl ⟨by rw[hfin.out];rfl,below_dr hbr.out _⟩
   | false =>
    rw[hsx]at HSk
    have hnext:Hid (widFrom nm 2=N):=by
     show _=_
     rw[←hN2.out]
     simp only[widFrom]
     rw[HQ3.out,hsx];rfl
    clear hsx
    go_wp2_with fail
    refine(HC.out _ HMR.out).mono ?_;rintro e w5 ⟨rfl,n5,rfl⟩
    go_wp2_with fail
    refine(HT1.out _).mono ?_;rintro e w6 ⟨rfl,rfl⟩
    go_wp2_with fail
    refine(HT2.out _).mono ?_;rintro e w7 ⟨rfl,rfl⟩
    go_wp2_with fail
    refine(HSk.out _).mono ?_;rintro e w8 ⟨rfl,rfl⟩
    go_wp2_with fail
    go_roundw
    case rel=>exact⟨2,by go_num,by omega,hnext,below_dr hb2.out _⟩
    case measure=>simp[intOf]
  ·have hix:∀V:World,Sem.run Tryz.prog (Instr.index 241 (.agg #[.string ⟨#[56]⟩,.string ⟨#[49,54]⟩,.string ⟨#[51,50]⟩]) (.int .i64 2)) V=.ok (.string ⟨#[51,50]⟩) V:=fun _=>rfl
   have HSk:=hide (fun V=>HS.out V ⟨#[51,50]⟩)
   rw[show (⟨#[51,50]⟩:ByteArray).data.toList=[51,50]from rfl]at HSk
   cases hsx:Lib.hasSuffix q3 [51,50] with
   | true =>
    rw[hsx]at HSk
    have hfin:Hid (N=4):=by
     show _=_
     rw[←hN2.out]
     simp only[widFrom]
     rw[HQ3.out,hsx];rfl
    clear hsx
    go_wp2_with fail
    refine(HC.out _ HMR.out).mono ?_;rintro e w5 ⟨rfl,n5,rfl⟩
    go_wp2_with fail
    refine(HT1.out _).mono ?_;rintro e w6 ⟨rfl,rfl⟩
    go_wp2_with fail
    refine(HT2.out _).mono ?_;rintro e w7 ⟨rfl,rfl⟩
    go_wp2_with fail
    refine(HSk.out _).mono ?_;rintro e w8 ⟨rfl,rfl⟩
    go_wp2_with fail
    refine bodyPost_ret (v:=.tuple #[.int .i64 4,.bool true]) (by simp[results,Tryz.results140,go_sem]) rfl ⟨by rw[hfin.out];rfl,below_dr hbr.out _⟩
   | false =>
    rw[hsx]at HSk
    have hnext:Hid (widFrom nm 3=N):=by
     show _=_
     rw[←hN2.out]
     simp only[widFrom]
     rw[HQ3.out,hsx];rfl
    clear hsx
    go_wp2_with fail
    refine(HC.out _ HMR.out).mono ?_;rintro e w5 ⟨rfl,n5,rfl⟩
    go_wp2_with fail
    refine(HT1.out _).mono ?_;rintro e w6 ⟨rfl,rfl⟩
    go_wp2_with fail
    refine(HT2.out _).mono ?_;rintro e w7 ⟨rfl,rfl⟩
    go_wp2_with fail
    refine(HSk.out _).mono ?_;rintro e w8 ⟨rfl,rfl⟩
    go_wp2_with fail
    go_roundw
    case rel=>exact⟨3,by go_num,by omega,hnext,below_dr hb2.out _⟩
    case measure=>simp[intOf]
  ·cases hpx:Lib.hasPrefix nm [105,54,52] with
   | true =>
    rw[hpx]at HP
    have hfin:Hid (N=8):=by
     show _=_
     rw[←hN2.out]
     simp only[widFrom]
     rw[hpx];rfl
    clear hpx
    go_wp2_with fail
    refine(HP.out _).mono ?_;rintro e w8 ⟨rfl,rfl⟩
    go_wp2_with fail
    refine bodyPost_ret (v:=.tuple #[.int .i64 8,.bool true]) (by simp[results,Tryz.results140,go_sem]) rfl ⟨by rw[hfin.out];rfl,hbr.out⟩
   | false =>
    rw[hpx]at HP
    have hfin:Hid (N=4):=by
     show _=_
     rw[←hN2.out]
     simp only[widFrom]
     rw[hpx];rfl
    clear hpx
    go_wp2_with fail
    refine(HP.out _).mono ?_;rintro e w8 ⟨rfl,rfl⟩
    go_wp2_with fail
    refine bodyPost_ret (v:=.tuple #[.int .i64 4,.bool true]) (by simp[results,Tryz.results140,go_sem]) rfl ⟨by rw[hfin.out];rfl,hbr.out⟩
end Go.Proofs.YtomppgohoplemaaGreat
