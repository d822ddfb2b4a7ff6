import Derived.Test.YtomppgohoplemaaGreatNAF
import Derived.Test.YtomppgohoplemaaGreatNAB
set_option linter.unusedVariables false
namespace Go.Proofs.YtomppgohoplemaaGreat
open Go.RowKit
def foreignL (c:Int):Bool:=opFor.any (fun x=>decide (x.1≤c)&&decide (c≤x.2))
def inSpan (c:Int) (s:OpSpan):Bool:=decide (s.first≤c)&&decide (c<s.first+s.many)
def numSpan (c:Int):Option OpSpan:=opSpans.find? (inSpan c)
def numN (s:OpSpan) (c:Int):Nat:=(s.base+c-s.first).toNat
theorem opSpans_bd:∀s∈opSpans,0≤s.first∧s.first≤200∧0≤s.many∧s.many≤20∧0≤s.base∧s.base≤3∧0≤s.group∧s.group≤2∧0≤s.bits∧s.bits≤64:=by decide
def numV (c:Int):Option OpSpan→Ending
 | none=>.returned (.tuple #[.int .i64 0,.int .i64 0,.int .i64 0,.bool false])
 | some s=>.returned (.tuple #[.int .i64 s.group,.int .i64 (numN s c:Int),.int .i64 s.bits,.bool true])
def NumericPost (c:Int) (v:Option OpSpan) (w:World) (e:Ending) (w':World):Prop:=e=numV c v∧Hid (Below w.heap.size w w')
set_option maxHeartbeats 1600000 in
theorem numeric_any (c:Int) (w:World) (h1:-9223372036854775808≤c) (h2:c≤9223372036854775807) :
  Calls Tryz.prog 158 #[.int .i64 c] w (NumericPost c (numSpan c) w):=by
 obtain⟨v,hv⟩:∃v,numSpan c=v:=⟨_,rfl⟩
 rw[hv]
 obtain⟨C,hC⟩:∃C,(opSpans.flatMap OpSpan.D).toArray=C:=⟨_,rfl⟩
 have HFT:=hide (fun w=>spans_tab w)
 rw[hC]at HFT
 have HV:Hid ((opSpans.drop 0).find? (inSpan c)=v):=hv
 clear hv
 have HC:=hide hC;clear hC
 go_enter Tryz.func158,Tryz.ntmps158
 go_wp2_with fail
 refine(HFT.out w).mono ?_;rintro e w1 ⟨rfl,hb1⟩
 go_wp2_with fail
 go_loopw [9] (fun i w2=>∃k:Nat,i=.int .i64 k∧k≤8∧Hid ((opSpans.drop k).find? (inSpan c)=v)∧Hid (Below w.heap.size w w2)) (fun i _=>8-(intOf i).toNat)
 case atStart=>exact⟨0,rfl,by omega,HV,hb1⟩
 case round =>
  obtain⟨k,rfl,hk,hv,hb⟩:=hrel
  by_cases hlt:k<8
  ·obtain⟨r,hr⟩:∃r,opSpans[k]?=some r:=⟨_,List.getElem?_eq_getElem (by simpa [opSpans]using hlt)⟩
   have hix:∀W,(Instr.index 257 (.agg C) (.int .i64 k)).run Tryz.prog W=.ok (.agg #[.int .i64 r.first,.int .i64 r.many,.int .i64 r.group,.int .i64 r.bits,.int .i64 r.base]) W:=fun W=>by
    rw[←HC.out];exact run_index_row opSpans_tab OpSpan.D (fun _=>rfl) opSpans rfl k r hr W
   have hd:opSpans.drop k=r::opSpans.drop (k+1):=by
    obtain⟨a,b⟩:=List.getElem?_eq_some_iff.1 hr
    rw[List.drop_eq_getElem_cons a,b]
   obtain⟨b1,b2,b3,b4,b5,b6,b7,b8,b9,b10⟩:=opSpans_bd r (List.mem_of_getElem? hr)
   have hv':=hv.out
   rw[hd,List.find?_cons]at hv'
   clear hd hr hv
   have hb':Hid (Below w.heap.size w (wr.alloc (.cells #[.int .i64 r.first,.int .i64 r.many,.int .i64 r.group,.int .i64 r.bits,.int .i64 r.base] 256))):=hb.out.alloc hb.out.size _
   by_cases hin:r.first≤c
   ·by_cases hin2:c<r.first+r.many
    ·have:v=some r:=by rw[←hv'];simp[inSpan,hin,hin2]
     subst this
     have HN:Hid (r.base+c-r.first=(numN r c:Int)):=by show _=_;unfold numN;omega
     have s1:IntKind.i64.wrap (r.base+c)=r.base+c:=IntWalk.i64_in _ (by omega)
     have s2:IntKind.i64.wrap (r.base+c-r.first)=r.base+c-r.first:=IntWalk.i64_in _ (by omega)
     clear hv'
     go_wp2_with fail
     go_quiet (fail)
     rename_i nq
     have hb'':Hid (Below w.heap.size w ((wr.alloc (.cells #[.int .i64 r.first,.int .i64 r.many,.int .i64 r.group,.int .i64 r.bits,.int .i64 r.base] 256)).drewN nq)):=hb'.out.trans ((Only.drewN [] _ nq).below hb'.out.size (by simp))
     rw[HN.out]
     go_wp2_with fail
     exact bodyPost_ret (results_tmp4 rfl _ _ _) rfl ⟨rfl,hb''⟩
    ·have f2:decide (c<r.first+r.many)=false:=by simpa using hin2
     have HV2:Hid ((opSpans.drop (k+1)).find? (inSpan c)=v):=by
      show _=_;rw[show inSpan c r=false from by unfold inSpan;rw[f2,Bool.and_false]]at hv';exact hv'
     clear hv' hin2
     go_wp2_with fail
     go_roundw
     case rel=>exact⟨k+1,by go_num,by omega,HV2,hb'⟩
     case measure=>simp[intOf]<;>omega
   ·have f1:decide (r.first≤c)=false:=by simpa using hin
    have HV2:Hid ((opSpans.drop (k+1)).find? (inSpan c)=v):=by
     show _=_;rw[show inSpan c r=false from by unfold inSpan;rw[f1,Bool.false_and]]at hv';exact hv'
    clear hv' hin
    go_wp2_with fail
    go_roundw
    case rel=>exact⟨k+1,by go_num,by omega,HV2,hb'⟩
    case measure=>simp[intOf]<;>omega
  ·have hk8:k=8:=by omega
   subst hk8
   have:v=none:=by rw[←hv.out];rfl
   subst this
   clear hv
   go_wp2_with fail
   exact bodyPost_ret (results_tmp4 rfl _ _ _) rfl ⟨rfl,hb⟩
def zeroRow:OpRow:=⟨0,⟨#[]⟩,0,⟨#[]⟩,⟨#[]⟩⟩
def kindS (b:Bool):ByteArray:=if b then ⟨#[105,54,52,46]⟩else ⟨#[105,51,50,46]⟩
def oneS (b:Bool):ByteArray:=if b then ⟨#[108]⟩else ⟨#[105]⟩
def spanRow (s:OpSpan) (c:Int):OpRow :=
 if s.group=0 then ⟨c,kindS (s.bits==64)++opBin.getD (numN s c) ⟨#[]⟩,0,oneS (s.bits==64)++oneS (s.bits==64),oneS (s.bits==64)⟩
 else if s.group=1 then ⟨c,kindS (s.bits==64)++opTst.getD (numN s c) ⟨#[]⟩,0,oneS (s.bits==64)++oneS (s.bits==64),⟨#[105]⟩⟩
 else if numN s c=3 then ⟨c,kindS (s.bits==64)++opUna.getD (numN s c) ⟨#[]⟩,0,oneS (s.bits==64),⟨#[105]⟩⟩
 else ⟨c,kindS (s.bits==64)++opUna.getD (numN s c) ⟨#[]⟩,0,oneS (s.bits==64),oneS (s.bits==64)⟩
def numRow (c:Int):Option OpRow:=(numSpan c).map (fun s=>spanRow s c)
def opRow (c:Int):Option OpRow:=(opRows1.find? (fun r=>r.code==c)).or ((opRows2.find? (fun r=>r.code==c)).or (numRow c))
def rowV (r:Option OpRow):Ending :=
 .returned (.tuple #[.agg #[.int .i64 (r.getD zeroRow).code,.string (r.getD zeroRow).name,.int .i64 (r.getD zeroRow).form,.string (r.getD zeroRow).takes,.string (r.getD zeroRow).gives],.bool r.isSome])
def RowPost (r:Option OpRow) (w:World) (e:Ending) (w':World):Prop:=e=rowV r∧Hid (Below w.heap.size w w')
theorem str_index {xs:List ByteArray} {t e:TypeId} {n:Nat} (hu:Tryz.prog.underlying t=some (.array n e)) (hs:(Tryz.prog.info? e).map (fun i=>i.size)=some 1) (ha:∀w,(isAgg e).run Tryz.prog w=.ok false w) (hn:xs.length=n) (k:Nat) (hk:k<n) (w:World) :
  (Instr.index t (.agg (xs.flatMap strD).toArray) (.int .i64 k)).run Tryz.prog w=.ok (.string (xs.getD k ⟨#[]⟩)) w:=by
 have h:xs.flatMap strD=xs.map Value.string:=by
  clear hn hk hu
  induction xs with
  | nil=>rfl
  | cons x r ih=>rw[List.flatMap_cons,ih];rfl
 rw[h]
 exact run_index_one hu hs ha (xs.map Value.string) (by simpa using hn) k _ (by rw[List.getElem?_map,List.getD_eq_getElem?_getD,List.getElem?_eq_getElem (by omega)];rfl) w
theorem name_small:(∀x∈opBin,x.size≤10)∧(∀x∈opTst,x.size≤10)∧(∀x∈opUna,x.size≤10):=by decide
theorem getD_small {xs:List ByteArray} (h:∀x∈xs,x.size≤10) (k:Nat):(xs.getD k ⟨#[]⟩).size≤10:=by
 rw[List.getD_eq_getElem?_getD]
 cases hk:xs[k]? with
 | none=>exact Nat.zero_le _
 | some x=>exact h x (List.mem_of_getElem? hk)
theorem span_kinds:∀s∈opSpans,(s.bits=32∨s.bits=64)∧((s.group=0∧s.many≤15∧s.base=0)∨(s.group=1∧s.many≤10∧s.base=0)∨(s.group=2∧s.base+s.many≤4)):=by decide
set_option maxRecDepth 100000 in
set_option maxHeartbeats 3200000 in
theorem numbered_any (c:Int) (w:World) (h1:-9223372036854775808≤c) (h2:c≤9223372036854775807) :
  Calls Tryz.prog 147 #[.int .i64 c] w (RowPost (numRow c) w):=by
 have HN:=hide (fun w=>numeric_any c w h1 h2)
 have HBT:=hide (fun w=>bin_tab w)
 have HTT:=hide (fun w=>tst_tab w)
 have HUT:=hide (fun w=>una_tab w)
 obtain⟨g,hg⟩:∃g,w.heap.size=g:=⟨_,rfl⟩
 obtain⟨W,hW⟩:∃W,w.alloc (.cells #[.int .i64 0,.string ⟨#[]⟩,.int .i64 0,.string ⟨#[]⟩,.string ⟨#[]⟩] 217)=W:=⟨_,rfl⟩
 have hblk:W.heap[g]?=some (.cells #[.int .i64 0,.string ⟨#[]⟩,.int .i64 0,.string ⟨#[]⟩,.string ⟨#[]⟩] 217 (0,0)):=by rw[←hW,←hg];exact heap_alloc_new w _
 have hb0:Below g w W:=by rw[←hW,←hg];exact(Below.refl _ _).alloc (Nat.le_refl _) _
 have HBLK:=hide hblk;clear hblk
 have HB0:=hide hb0;clear hb0
 have HW:=hide hW;clear hW
 have HG:=hide hg;clear hg
 have fin:∀(w1:World) (cs:Array Value),w1.heap[g]?=some (.cells #[.int .i64 0,.string ⟨#[]⟩,.int .i64 0,.string ⟨#[]⟩,.string ⟨#[]⟩] 217 (0,0))→Below g w w1→(w1.setRow g cs).heap[g]?=some (.cells cs 217 (0,0))∧Below g w (w1.setRow g cs):=fun w1 cs hb hl =>
  ⟨setRow_blk hb,hl.trans ((setRow_only w1 g cs).below (Nat.le_of_lt (blk_lt hb)) (by simp))⟩
 have FIN:=hide fin;clear fin
 cases hs:numSpan c with
 | none =>
  rw[hs]at HN
  have hr:numRow c=none:=by unfold numRow;rw[hs];rfl
  rw[hr]
  clear hr hs
  go_enter Tryz.func147,Tryz.ntmps147
  go_wp2_with fail
  rw[HW.out,HG.out]
  refine(HN.out _).mono ?_;rintro e w1 ⟨rfl,hb1⟩
  unfold numV
  have blk1:=hide ((hb1.out.block g (blk_lt HBLK.out)).trans HBLK.out)
  have hbel:Hid (Below g w w1):=HB0.out.trans (hb1.out.mono (Nat.le_of_lt (blk_lt HBLK.out)))
  go_wp2_with (refine wpList_store_row rfl 217 _ _ rfl g _ rfl rfl 217 _ blk1.out (by kernel_rfl) rfl (by simp[Value.oneCell']) ?_)
  obtain⟨k1,k2⟩:=FIN.out w1 #[.int .i64 0,.string ⟨#[]⟩,.int .i64 0,.string ⟨#[]⟩,.string ⟨#[]⟩] blk1.out hbel.out
  generalize w1.setRow g #[.int .i64 0,.string ⟨#[]⟩,.int .i64 0,.string ⟨#[]⟩,.string ⟨#[]⟩]=W2 at k1 k2 ⊢
  have f0:W2.cell? ⟨g,0,none⟩=some (.int .i64 0):=cell_blk k1 0
  have f1:W2.cell? ⟨g,1,none⟩=some (.string ⟨#[]⟩):=cell_blk k1 1
  have f2:W2.cell? ⟨g,2,none⟩=some (.int .i64 0):=cell_blk k1 2
  have f3:W2.cell? ⟨g,3,none⟩=some (.string ⟨#[]⟩):=cell_blk k1 3
  have f4:W2.cell? ⟨g,4,none⟩=some (.string ⟨#[]⟩):=cell_blk k1 4
  refine bodyPost_ret (v:=.tuple #[.agg #[.int .i64 0,.string ⟨#[]⟩,.int .i64 0,.string ⟨#[]⟩,.string ⟨#[]⟩],.bool false]) (by simp[results,Tryz.results147,go_sem,f0,f1,f2,f3,f4]) rfl ⟨rfl,?_⟩
  rw[HG.out]
  exact k2
 | some s =>
  rw[hs]at HN
  have hr:numRow c=some (spanRow s c):=by unfold numRow;rw[hs];rfl
  rw[hr]
  have hm:s∈opSpans:=List.mem_of_find?_eq_some hs
  have hin:inSpan c s=true:=List.find?_some hs
  obtain⟨hbits,hgr⟩:=span_kinds s hm
  obtain⟨b1,b2,b3,b4,b5,b6,b7,b8,b9,b10⟩:=opSpans_bd s hm
  unfold inSpan at hin
  simp only[Bool.and_eq_true,decide_eq_true_eq]at hin
  obtain⟨n,hn⟩:∃n,numN s c=n:=⟨_,rfl⟩
  have hnn:(n:Int)=s.base+c-s.first:=by rw[←hn];unfold numN;omega
  obtain⟨q,hq⟩:∃q,(s.bits==64)=q:=⟨_,rfl⟩
  obtain⟨row,hrow⟩:∃row,spanRow s c=row:=⟨_,rfl⟩
  have hx1:=fun W (h:n<15)=>str_index (xs:=opBin) (t:=249) (e:=9) Tryz.underlying249 (by kernel_rfl) (fun _=>by kernel_rfl) rfl n h W
  have hx2:=fun W (h:n<10)=>str_index (xs:=opTst) (t:=251) (e:=9) Tryz.underlying251 (by kernel_rfl) (fun _=>by kernel_rfl) rfl n h W
  have hx3:=fun W (h:n<4)=>str_index (xs:=opUna) (t:=253) (e:=9) Tryz.underlying253 (by kernel_rfl) (fun _=>by kernel_rfl) rfl n h W
  have sm1:=getD_small name_small.1 n
  have sm2:=getD_small name_small.2.1 n
  have sm3:=getD_small name_small.2.2 n
  rw[hrow]
  unfold spanRow at hrow
  rw[hn,hq]at hrow
  have hcase:(s.group=0∧n<15)∨(s.group=1∧n<10)∨(s.group=2∧n<4):=by omega
  have HNV:Hid (numV c (some s)=.returned (.tuple #[.int .i64 s.group,.int .i64 (n:Int),.int .i64 s.bits,.bool true])):=by show _=_;rw[←hn];rfl
  have HX1:=hide hx1;have HX2:=hide hx2;have HX3:=hide hx3
  clear hx1 hx2 hx3 hr hs hm hin b1 b2 b3 b4 b5 b6 b7 b8 b9 b10 hn hnn hgr
  obtain⟨sf,smn,sg,sb,sba⟩:=s
  simp only at hbits hcase hq hrow HNV
  have HQ:=hide hq;clear hq
  have HROW:=hide hrow;clear hrow
  have X1:Hid True:=trivial
  rcases hcase with ⟨rfl,hnl⟩|⟨rfl,hnl⟩|⟨rfl,hnl⟩
  ·have hx:=fun W=>HX1.out W hnl
   obtain⟨nm,hnm⟩:∃nm,opBin.getD n ⟨#[]⟩=nm:=⟨_,rfl⟩
   rw[hnm]at hx sm1
   clear sm2 sm3
   rcases hbits with rfl|rfl
   ·have hrow:=HROW.out
    have hq:q=false:=by rw[←HQ.out];rfl
    subst hq
    rw[if_pos rfl,hnm]at hrow
    have HR:Hid (row=⟨c,⟨#[105,51,50,46]⟩++nm,0,⟨#[105]⟩++⟨#[105]⟩,⟨#[105]⟩⟩):=hrow.symm
    clear hrow
    have HNM:=hide hnm;clear hnm
    go_enter Tryz.func147,Tryz.ntmps147
    go_wp2_with fail
    rw[HW.out,HG.out]
    refine(HN.out _).mono ?_;rintro e w1 ⟨rfl,hb1⟩
    rw[HNV.out]
    have blk1:=hide ((hb1.out.block g (blk_lt HBLK.out)).trans HBLK.out)
    have hbel:Hid (Below g w w1):=HB0.out.trans (hb1.out.mono (Nat.le_of_lt (blk_lt HBLK.out)))
    go_wp2_with fail
    refine(HBT.out _).mono ?_;rintro e w2 ⟨rfl,hb2⟩
    have blk2:=hide ((hb2.out.block g (blk_lt blk1.out)).trans blk1.out)
    have hbel2:Hid (Below g w w2):=hbel.out.trans (hb2.out.mono (Nat.le_of_lt (blk_lt blk1.out)))
    go_wp2_with (refine wpList_store_row rfl 217 _ _ rfl g #[.int .i64 c,.string (⟨#[105,51,50,46]⟩++nm),.int .i64 0,.string (⟨#[105]⟩++⟨#[105]⟩),.string ⟨#[105]⟩] rfl rfl 217 _ blk2.out (by kernel_rfl) rfl (by simp[Value.oneCell']) ?_)
    obtain⟨k1,k2⟩:=FIN.out w2 #[.int .i64 c,.string (⟨#[105,51,50,46]⟩++nm),.int .i64 0,.string (⟨#[105]⟩++⟨#[105]⟩),.string ⟨#[105]⟩] blk2.out hbel2.out
    generalize w2.setRow g #[.int .i64 c,.string (⟨#[105,51,50,46]⟩++nm),.int .i64 0,.string (⟨#[105]⟩++⟨#[105]⟩),.string ⟨#[105]⟩]=W2 at k1 k2 ⊢
    have f0:W2.cell? ⟨g,0,none⟩=some (.int .i64 c):=cell_blk k1 0
    have f1:W2.cell? ⟨g,1,none⟩=some (.string (⟨#[105,51,50,46]⟩++nm)):=cell_blk k1 1
    have f2:W2.cell? ⟨g,2,none⟩=some (.int .i64 0):=cell_blk k1 2
    have f3:W2.cell? ⟨g,3,none⟩=some (.string (⟨#[105]⟩++⟨#[105]⟩)):=cell_blk k1 3
    have f4:W2.cell? ⟨g,4,none⟩=some (.string ⟨#[105]⟩):=cell_blk k1 4
    rw[HR.out]
    refine bodyPost_ret (v:=.tuple #[.agg #[.int .i64 c,.string (⟨#[105,51,50,46]⟩++nm),.int .i64 0,.string (⟨#[105]⟩++⟨#[105]⟩),.string ⟨#[105]⟩],.bool true]) (by simp[results,Tryz.results147,go_sem,f0,f1,f2,f3,f4]) rfl ⟨rfl,?_⟩
    rw[HG.out]
    exact k2
   ·have hrow:=HROW.out
    have hq:q=true:=by rw[←HQ.out];rfl
    subst hq
    rw[if_pos rfl,hnm]at hrow
    have HR:Hid (row=⟨c,⟨#[105,54,52,46]⟩++nm,0,⟨#[108]⟩++⟨#[108]⟩,⟨#[108]⟩⟩):=hrow.symm
    clear hrow
    have HNM:=hide hnm;clear hnm
    go_enter Tryz.func147,Tryz.ntmps147
    go_wp2_with fail
    rw[HW.out,HG.out]
    refine(HN.out _).mono ?_;rintro e w1 ⟨rfl,hb1⟩
    rw[HNV.out]
    have blk1:=hide ((hb1.out.block g (blk_lt HBLK.out)).trans HBLK.out)
    have hbel:Hid (Below g w w1):=HB0.out.trans (hb1.out.mono (Nat.le_of_lt (blk_lt HBLK.out)))
    go_wp2_with fail
    refine(HBT.out _).mono ?_;rintro e w2 ⟨rfl,hb2⟩
    have blk2:=hide ((hb2.out.block g (blk_lt blk1.out)).trans blk1.out)
    have hbel2:Hid (Below g w w2):=hbel.out.trans (hb2.out.mono (Nat.le_of_lt (blk_lt blk1.out)))
    go_wp2_with (refine wpList_store_row rfl 217 _ _ rfl g #[.int .i64 c,.string (⟨#[105,54,52,46]⟩++nm),.int .i64 0,.string (⟨#[108]⟩++⟨#[108]⟩),.string ⟨#[108]⟩] rfl rfl 217 _ blk2.out (by kernel_rfl) rfl (by simp[Value.oneCell']) ?_)
    obtain⟨k1,k2⟩:=FIN.out w2 #[.int .i64 c,.string (⟨#[105,54,52,46]⟩++nm),.int .i64 0,.string (⟨#[108]⟩++⟨#[108]⟩),.string ⟨#[108]⟩] blk2.out hbel2.out
    generalize w2.setRow g #[.int .i64 c,.string (⟨#[105,54,52,46]⟩++nm),.int .i64 0,.string (⟨#[108]⟩++⟨#[108]⟩),.string ⟨#[108]⟩]=W2 at k1 k2 ⊢
    have f0:W2.cell? ⟨g,0,none⟩=some (.int .i64 c):=cell_blk k1 0
    have f1:W2.cell? ⟨g,1,none⟩=some (.string (⟨#[105,54,52,46]⟩++nm)):=cell_blk k1 1
    have f2:W2.cell? ⟨g,2,none⟩=some (.int .i64 0):=cell_blk k1 2
    have f3:W2.cell? ⟨g,3,none⟩=some (.string (⟨#[108]⟩++⟨#[108]⟩)):=cell_blk k1 3
    have f4:W2.cell? ⟨g,4,none⟩=some (.string ⟨#[108]⟩):=cell_blk k1 4
    rw[HR.out]
    refine bodyPost_ret (v:=.tuple #[.agg #[.int .i64 c,.string (⟨#[105,54,52,46]⟩++nm),.int .i64 0,.string (⟨#[108]⟩++⟨#[108]⟩),.string ⟨#[108]⟩],.bool true]) (by simp[results,Tryz.results147,go_sem,f0,f1,f2,f3,f4]) rfl ⟨rfl,?_⟩
    rw[HG.out]
    exact k2
  ·have hx:=fun W=>HX2.out W hnl
   obtain⟨nm,hnm⟩:∃nm,opTst.getD n ⟨#[]⟩=nm:=⟨_,rfl⟩
   rw[hnm]at hx sm2
   clear sm1 sm3
   rcases hbits with rfl|rfl
   ·have hrow:=HROW.out
    have hq:q=false:=by rw[←HQ.out];rfl
    subst hq
    rw[if_neg (by decide),if_pos rfl,hnm]at hrow
    have HR:Hid (row=⟨c,⟨#[105,51,50,46]⟩++nm,0,⟨#[105]⟩++⟨#[105]⟩,⟨#[105]⟩⟩):=hrow.symm
    clear hrow
    have HNM:=hide hnm;clear hnm
    go_enter Tryz.func147,Tryz.ntmps147
    go_wp2_with fail
    rw[HW.out,HG.out]
    refine(HN.out _).mono ?_;rintro e w1 ⟨rfl,hb1⟩
    rw[HNV.out]
    have blk1:=hide ((hb1.out.block g (blk_lt HBLK.out)).trans HBLK.out)
    have hbel:Hid (Below g w w1):=HB0.out.trans (hb1.out.mono (Nat.le_of_lt (blk_lt HBLK.out)))
    go_wp2_with fail
    refine(HTT.out _).mono ?_;rintro e w2 ⟨rfl,hb2⟩
    have blk2:=hide ((hb2.out.block g (blk_lt blk1.out)).trans blk1.out)
    have hbel2:Hid (Below g w w2):=hbel.out.trans (hb2.out.mono (Nat.le_of_lt (blk_lt blk1.out)))
    go_wp2_with (refine wpList_store_row rfl 217 _ _ rfl g #[.int .i64 c,.string (⟨#[105,51,50,46]⟩++nm),.int .i64 0,.string (⟨#[105]⟩++⟨#[105]⟩),.string ⟨#[105]⟩] rfl rfl 217 _ blk2.out (by kernel_rfl) rfl (by simp[Value.oneCell']) ?_)
    obtain⟨k1,k2⟩:=FIN.out w2 #[.int .i64 c,.string (⟨#[105,51,50,46]⟩++nm),.int .i64 0,.string (⟨#[105]⟩++⟨#[105]⟩),.string ⟨#[105]⟩] blk2.out hbel2.out
    generalize w2.setRow g #[.int .i64 c,.string (⟨#[105,51,50,46]⟩++nm),.int .i64 0,.string (⟨#[105]⟩++⟨#[105]⟩),.string ⟨#[105]⟩]=W2 at k1 k2 ⊢
    have f0:W2.cell? ⟨g,0,none⟩=some (.int .i64 c):=cell_blk k1 0
    have f1:W2.cell? ⟨g,1,none⟩=some (.string (⟨#[105,51,50,46]⟩++nm)):=cell_blk k1 1
    have f2:W2.cell? ⟨g,2,none⟩=some (.int .i64 0):=cell_blk k1 2
    have f3:W2.cell? ⟨g,3,none⟩=some (.string (⟨#[105]⟩++⟨#[105]⟩)):=cell_blk k1 3
    have f4:W2.cell? ⟨g,4,none⟩=some (.string ⟨#[105]⟩):=cell_blk k1 4
    rw[HR.out]
    refine bodyPost_ret (v:=.tuple #[.agg #[.int .i64 c,.string (⟨#[105,51,50,46]⟩++nm),.int .i64 0,.string (⟨#[105]⟩++⟨#[105]⟩),.string ⟨#[105]⟩],.bool true]) (by simp[results,Tryz.results147,go_sem,f0,f1,f2,f3,f4]) rfl ⟨rfl,?_⟩
    rw[HG.out]
    exact k2
   ·have hrow:=HROW.out
    have hq:q=true:=by rw[←HQ.out];rfl
    subst hq
    rw[if_neg (by decide),if_pos rfl,hnm]at hrow
    have HR:Hid (row=⟨c,⟨#[105,54,52,46]⟩++nm,0,⟨#[108]⟩++⟨#[108]⟩,⟨#[105]⟩⟩):=hrow.symm
    clear hrow
    have HNM:=hide hnm;clear hnm
    go_enter Tryz.func147,Tryz.ntmps147
    go_wp2_with fail
    rw[HW.out,HG.out]
    refine(HN.out _).mono ?_;rintro e w1 ⟨rfl,hb1⟩
    rw[HNV.out]
    have blk1:=hide ((hb1.out.block g (blk_lt HBLK.out)).trans HBLK.out)
    have hbel:Hid (Below g w w1):=HB0.out.trans (hb1.out.mono (Nat.le_of_lt (blk_lt HBLK.out)))
    go_wp2_with fail
    refine(HTT.out _).mono ?_;rintro e w2 ⟨rfl,hb2⟩
    have blk2:=hide ((hb2.out.block g (blk_lt blk1.out)).trans blk1.out)
    have hbel2:Hid (Below g w w2):=hbel.out.trans (hb2.out.mono (Nat.le_of_lt (blk_lt blk1.out)))
    go_wp2_with (refine wpList_store_row rfl 217 _ _ rfl g #[.int .i64 c,.string (⟨#[105,54,52,46]⟩++nm),.int .i64 0,.string (⟨#[108]⟩++⟨#[108]⟩),.string ⟨#[105]⟩] rfl rfl 217 _ blk2.out (by kernel_rfl) rfl (by simp[Value.oneCell']) ?_)
    obtain⟨k1,k2⟩:=FIN.out w2 #[.int .i64 c,.string (⟨#[105,54,52,46]⟩++nm),.int .i64 0,.string (⟨#[108]⟩++⟨#[108]⟩),.string ⟨#[105]⟩] blk2.out hbel2.out
    generalize w2.setRow g #[.int .i64 c,.string (⟨#[105,54,52,46]⟩++nm),.int .i64 0,.string (⟨#[108]⟩++⟨#[108]⟩),.string ⟨#[105]⟩]=W2 at k1 k2 ⊢
    have f0:W2.cell? ⟨g,0,none⟩=some (.int .i64 c):=cell_blk k1 0
    have f1:W2.cell? ⟨g,1,none⟩=some (.string (⟨#[105,54,52,46]⟩++nm)):=cell_blk k1 1
    have f2:W2.cell? ⟨g,2,none⟩=some (.int .i64 0):=cell_blk k1 2
    have f3:W2.cell? ⟨g,3,none⟩=some (.string (⟨#[108]⟩++⟨#[108]⟩)):=cell_blk k1 3
    have f4:W2.cell? ⟨g,4,none⟩=some (.string ⟨#[105]⟩):=cell_blk k1 4
    rw[HR.out]
    refine bodyPost_ret (v:=.tuple #[.agg #[.int .i64 c,.string (⟨#[105,54,52,46]⟩++nm),.int .i64 0,.string (⟨#[108]⟩++⟨#[108]⟩),.string ⟨#[105]⟩],.bool true]) (by simp[results,Tryz.results147,go_sem,f0,f1,f2,f3,f4]) rfl ⟨rfl,?_⟩
    rw[HG.out]
    exact k2
  ·have hx:=fun W=>HX3.out W hnl
   obtain⟨nm,hnm⟩:∃nm,opUna.getD n ⟨#[]⟩=nm:=⟨_,rfl⟩
   rw[hnm]at hx sm3
   clear sm1 sm2
   rcases hbits with rfl|rfl
   ·have hrow:=HROW.out
    have hq:q=false:=by rw[←HQ.out];rfl
    subst hq
    by_cases h3:n=3
    ·skip
     rw[if_neg (by decide),if_neg (by decide),if_pos h3,hnm]at hrow
     have HR:Hid (row=⟨c,⟨#[105,51,50,46]⟩++nm,0,⟨#[105]⟩,⟨#[105]⟩⟩):=hrow.symm
     clear hrow
     have HNM:=hide hnm;clear hnm
     have f3:((n:Int)==3)=true:=by simp;omega
     clear h3
     go_enter Tryz.func147,Tryz.ntmps147
     go_wp2_with fail
     rw[HW.out,HG.out]
     refine(HN.out _).mono ?_;rintro e w1 ⟨rfl,hb1⟩
     rw[HNV.out]
     have blk1:=hide ((hb1.out.block g (blk_lt HBLK.out)).trans HBLK.out)
     have hbel:Hid (Below g w w1):=HB0.out.trans (hb1.out.mono (Nat.le_of_lt (blk_lt HBLK.out)))
     go_wp2_with fail
     refine(HUT.out _).mono ?_;rintro e w2 ⟨rfl,hb2⟩
     have blk2:=hide ((hb2.out.block g (blk_lt blk1.out)).trans blk1.out)
     have hbel2:Hid (Below g w w2):=hbel.out.trans (hb2.out.mono (Nat.le_of_lt (blk_lt blk1.out)))
     go_wp2_with (refine wpList_store_row rfl 217 _ _ rfl g #[.int .i64 c,.string (⟨#[105,51,50,46]⟩++nm),.int .i64 0,.string (⟨#[105]⟩),.string ⟨#[105]⟩] rfl rfl 217 _ blk2.out (by kernel_rfl) rfl (by simp[Value.oneCell']) ?_)
     obtain⟨k1,k2⟩:=FIN.out w2 #[.int .i64 c,.string (⟨#[105,51,50,46]⟩++nm),.int .i64 0,.string (⟨#[105]⟩),.string ⟨#[105]⟩] blk2.out hbel2.out
     generalize w2.setRow g #[.int .i64 c,.string (⟨#[105,51,50,46]⟩++nm),.int .i64 0,.string (⟨#[105]⟩),.string ⟨#[105]⟩]=W2 at k1 k2 ⊢
     have f0:W2.cell? ⟨g,0,none⟩=some (.int .i64 c):=cell_blk k1 0
     have f1:W2.cell? ⟨g,1,none⟩=some (.string (⟨#[105,51,50,46]⟩++nm)):=cell_blk k1 1
     have f2:W2.cell? ⟨g,2,none⟩=some (.int .i64 0):=cell_blk k1 2
     have f3:W2.cell? ⟨g,3,none⟩=some (.string (⟨#[105]⟩)):=cell_blk k1 3
     have f4:W2.cell? ⟨g,4,none⟩=some (.string ⟨#[105]⟩):=cell_blk k1 4
     rw[HR.out]
     refine bodyPost_ret (v:=.tuple #[.agg #[.int .i64 c,.string (⟨#[105,51,50,46]⟩++nm),.int .i64 0,.string (⟨#[105]⟩),.string ⟨#[105]⟩],.bool true]) (by simp[results,Tryz.results147,go_sem,f0,f1,f2,f3,f4]) rfl ⟨rfl,?_⟩
     rw[HG.out]
     exact k2
    ·skip
     rw[if_neg (by decide),if_neg (by decide),if_neg h3,hnm]at hrow
     have HR:Hid (row=⟨c,⟨#[105,51,50,46]⟩++nm,0,⟨#[105]⟩,⟨#[105]⟩⟩):=hrow.symm
     clear hrow
     have HNM:=hide hnm;clear hnm
     have f3:((n:Int)==3)=false:=by simp;omega
     clear h3
     go_enter Tryz.func147,Tryz.ntmps147
     go_wp2_with fail
     rw[HW.out,HG.out]
     refine(HN.out _).mono ?_;rintro e w1 ⟨rfl,hb1⟩
     rw[HNV.out]
     have blk1:=hide ((hb1.out.block g (blk_lt HBLK.out)).trans HBLK.out)
     have hbel:Hid (Below g w w1):=HB0.out.trans (hb1.out.mono (Nat.le_of_lt (blk_lt HBLK.out)))
     go_wp2_with fail
     refine(HUT.out _).mono ?_;rintro e w2 ⟨rfl,hb2⟩
     have blk2:=hide ((hb2.out.block g (blk_lt blk1.out)).trans blk1.out)
     have hbel2:Hid (Below g w w2):=hbel.out.trans (hb2.out.mono (Nat.le_of_lt (blk_lt blk1.out)))
     go_wp2_with (refine wpList_store_row rfl 217 _ _ rfl g #[.int .i64 c,.string (⟨#[105,51,50,46]⟩++nm),.int .i64 0,.string (⟨#[105]⟩),.string ⟨#[105]⟩] rfl rfl 217 _ blk2.out (by kernel_rfl) rfl (by simp[Value.oneCell']) ?_)
     obtain⟨k1,k2⟩:=FIN.out w2 #[.int .i64 c,.string (⟨#[105,51,50,46]⟩++nm),.int .i64 0,.string (⟨#[105]⟩),.string ⟨#[105]⟩] blk2.out hbel2.out
     generalize w2.setRow g #[.int .i64 c,.string (⟨#[105,51,50,46]⟩++nm),.int .i64 0,.string (⟨#[105]⟩),.string ⟨#[105]⟩]=W2 at k1 k2 ⊢
     have f0:W2.cell? ⟨g,0,none⟩=some (.int .i64 c):=cell_blk k1 0
     have f1:W2.cell? ⟨g,1,none⟩=some (.string (⟨#[105,51,50,46]⟩++nm)):=cell_blk k1 1
     have f2:W2.cell? ⟨g,2,none⟩=some (.int .i64 0):=cell_blk k1 2
     have f3:W2.cell? ⟨g,3,none⟩=some (.string (⟨#[105]⟩)):=cell_blk k1 3
     have f4:W2.cell? ⟨g,4,none⟩=some (.string ⟨#[105]⟩):=cell_blk k1 4
     rw[HR.out]
     refine bodyPost_ret (v:=.tuple #[.agg #[.int .i64 c,.string (⟨#[105,51,50,46]⟩++nm),.int .i64 0,.string (⟨#[105]⟩),.string ⟨#[105]⟩],.bool true]) (by simp[results,Tryz.results147,go_sem,f0,f1,f2,f3,f4]) rfl ⟨rfl,?_⟩
     rw[HG.out]
     exact k2
   ·have hrow:=HROW.out
    have hq:q=true:=by rw[←HQ.out];rfl
    subst hq
    by_cases h3:n=3
    ·skip
     rw[if_neg (by decide),if_neg (by decide),if_pos h3,hnm]at hrow
     have HR:Hid (row=⟨c,⟨#[105,54,52,46]⟩++nm,0,⟨#[108]⟩,⟨#[105]⟩⟩):=hrow.symm
     clear hrow
     have HNM:=hide hnm;clear hnm
     have f3:((n:Int)==3)=true:=by simp;omega
     clear h3
     go_enter Tryz.func147,Tryz.ntmps147
     go_wp2_with fail
     rw[HW.out,HG.out]
     refine(HN.out _).mono ?_;rintro e w1 ⟨rfl,hb1⟩
     rw[HNV.out]
     have blk1:=hide ((hb1.out.block g (blk_lt HBLK.out)).trans HBLK.out)
     have hbel:Hid (Below g w w1):=HB0.out.trans (hb1.out.mono (Nat.le_of_lt (blk_lt HBLK.out)))
     go_wp2_with fail
     refine(HUT.out _).mono ?_;rintro e w2 ⟨rfl,hb2⟩
     have blk2:=hide ((hb2.out.block g (blk_lt blk1.out)).trans blk1.out)
     have hbel2:Hid (Below g w w2):=hbel.out.trans (hb2.out.mono (Nat.le_of_lt (blk_lt blk1.out)))
     go_wp2_with (refine wpList_store_row rfl 217 _ _ rfl g #[.int .i64 c,.string (⟨#[105,54,52,46]⟩++nm),.int .i64 0,.string (⟨#[108]⟩),.string ⟨#[105]⟩] rfl rfl 217 _ blk2.out (by kernel_rfl) rfl (by simp[Value.oneCell']) ?_)
     obtain⟨k1,k2⟩:=FIN.out w2 #[.int .i64 c,.string (⟨#[105,54,52,46]⟩++nm),.int .i64 0,.string (⟨#[108]⟩),.string ⟨#[105]⟩] blk2.out hbel2.out
     generalize w2.setRow g #[.int .i64 c,.string (⟨#[105,54,52,46]⟩++nm),.int .i64 0,.string (⟨#[108]⟩),.string ⟨#[105]⟩]=W2 at k1 k2 ⊢
     have f0:W2.cell? ⟨g,0,none⟩=some (.int .i64 c):=cell_blk k1 0
     have f1:W2.cell? ⟨g,1,none⟩=some (.string (⟨#[105,54,52,46]⟩++nm)):=cell_blk k1 1
     have f2:W2.cell? ⟨g,2,none⟩=some (.int .i64 0):=cell_blk k1 2
     have f3:W2.cell? ⟨g,3,none⟩=some (.string (⟨#[108]⟩)):=cell_blk k1 3
     have f4:W2.cell? ⟨g,4,none⟩=some (.string ⟨#[105]⟩):=cell_blk k1 4
     rw[HR.out]
     refine bodyPost_ret (v:=.tuple #[.agg #[.int .i64 c,.string (⟨#[105,54,52,46]⟩++nm),.int .i64 0,.string (⟨#[108]⟩),.string ⟨#[105]⟩],.bool true]) (by simp[results,Tryz.results147,go_sem,f0,f1,f2,f3,f4]) rfl ⟨rfl,?_⟩
     rw[HG.out]
     exact k2
    ·skip
     rw[if_neg (by decide),if_neg (by decide),if_neg h3,hnm]at hrow
     have HR:Hid (row=⟨c,⟨#[105,54,52,46]⟩++nm,0,⟨#[108]⟩,⟨#[108]⟩⟩):=hrow.symm
     clear hrow
     have HNM:=hide hnm;clear hnm
     have f3:((n:Int)==3)=false:=by simp;omega
     clear h3
     go_enter Tryz.func147,Tryz.ntmps147
     go_wp2_with fail
     rw[HW.out,HG.out]
     refine(HN.out _).mono ?_;rintro e w1 ⟨rfl,hb1⟩
     rw[HNV.out]
     have blk1:=hide ((hb1.out.block g (blk_lt HBLK.out)).trans HBLK.out)
     have hbel:Hid (Below g w w1):=HB0.out.trans (hb1.out.mono (Nat.le_of_lt (blk_lt HBLK.out)))
     go_wp2_with fail
     refine(HUT.out _).mono ?_;rintro e w2 ⟨rfl,hb2⟩
     have blk2:=hide ((hb2.out.block g (blk_lt blk1.out)).trans blk1.out)
     have hbel2:Hid (Below g w w2):=hbel.out.trans (hb2.out.mono (Nat.le_of_lt (blk_lt blk1.out)))
     go_wp2_with (refine wpList_store_row rfl 217 _ _ rfl g #[.int .i64 c,.string (⟨#[105,54,52,46]⟩++nm),.int .i64 0,.string (⟨#[108]⟩),.string ⟨#[108]⟩] rfl rfl 217 _ blk2.out (by kernel_rfl) rfl (by simp[Value.oneCell']) ?_)
     obtain⟨k1,k2⟩:=FIN.out w2 #[.int .i64 c,.string (⟨#[105,54,52,46]⟩++nm),.int .i64 0,.string (⟨#[108]⟩),.string ⟨#[108]⟩] blk2.out hbel2.out
     generalize w2.setRow g #[.int .i64 c,.string (⟨#[105,54,52,46]⟩++nm),.int .i64 0,.string (⟨#[108]⟩),.string ⟨#[108]⟩]=W2 at k1 k2 ⊢
     have f0:W2.cell? ⟨g,0,none⟩=some (.int .i64 c):=cell_blk k1 0
     have f1:W2.cell? ⟨g,1,none⟩=some (.string (⟨#[105,54,52,46]⟩++nm)):=cell_blk k1 1
     have f2:W2.cell? ⟨g,2,none⟩=some (.int .i64 0):=cell_blk k1 2
     have f3:W2.cell? ⟨g,3,none⟩=some (.string (⟨#[108]⟩)):=cell_blk k1 3
     have f4:W2.cell? ⟨g,4,none⟩=some (.string ⟨#[108]⟩):=cell_blk k1 4
     rw[HR.out]
     refine bodyPost_ret (v:=.tuple #[.agg #[.int .i64 c,.string (⟨#[105,54,52,46]⟩++nm),.int .i64 0,.string (⟨#[108]⟩),.string ⟨#[108]⟩],.bool true]) (by simp[results,Tryz.results147,go_sem,f0,f1,f2,f3,f4]) rfl ⟨rfl,?_⟩
     rw[HG.out]
     exact k2
end Go.Proofs.YtomppgohoplemaaGreat
