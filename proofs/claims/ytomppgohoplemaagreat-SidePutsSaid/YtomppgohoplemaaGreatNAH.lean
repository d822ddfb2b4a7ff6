import Derived.Test.YtomppgohoplemaaGreatNAG
import Derived.Test.YtomppgohoplemaaGreatNAE
import Derived.Test.YtomppgohoplemaaGreatNAD
import Derived.Test.YtomppgohoplemaaGreatNAA
import Derived.Test.YtomppgohoplemaaGreatNAB
import Derived.Test.YtomppgohoplemaaGreatRows
import Derived.Laws.Entries
import Derived.Outline
import Derived.Lib.Small
import Derived.Lib.Walk
import Derived.Test.YtomppgohoplemaaGreatNAC
import Derived.Test.YtomppgohoplemaaGreatShelf
import Derived.Maps.RangeWalk
import Derived.Deep.QuietTactic
import Derived.BigQuiet
import Derived.Deep.RegionHeld3
set_option linter.unusedVariables false
namespace Go.Proofs.YtomppgohoplemaaGreat
open Go.RowKit
theorem rowV_some (r:OpRow):rowV (some r)=.returned (.tuple #[.agg #[.int .i64 r.code,.string r.name,.int .i64 r.form,.string r.takes,.string r.gives],.bool true]):=rfl
theorem rowV_none:rowV none=.returned (.tuple #[.agg #[.int .i64 0,.string ⟨#[]⟩,.int .i64 0,.string ⟨#[]⟩,.string ⟨#[]⟩],.bool false]):=rfl
theorem find_drop {α:Type} {p:α→Bool} {l:List α} {k:Nat} {r:α} (hr:l[k]?=some r):(l.drop k).find? p=if p r then some r else (l.drop (k+1)).find? p:=by
 obtain⟨a,b⟩:=List.getElem?_eq_some_iff.1 hr
 rw[List.drop_eq_getElem_cons a,b,List.find?_cons]
 cases p r<;>rfl
set_option maxRecDepth 100000 in
set_option maxHeartbeats 3200000 in
theorem opAt_any (c:Int) (w:World) (h1:-9223372036854775808≤c) (h2:c≤9223372036854775807) :
  Calls Tryz.prog 125 #[.int .i64 c] w (RowPost (opRow c) w):=by
 have HNB:=hide (fun w=>numbered_any c w h1 h2)
 obtain⟨C1,hC1⟩:∃C,(opRows1.flatMap OpRow.D).toArray=C:=⟨_,rfl⟩
 obtain⟨C2,hC2⟩:∃C,(opRows2.flatMap OpRow.D).toArray=C:=⟨_,rfl⟩
 have HT1:=hide (fun w=>rows_any w)
 have HT2:=hide (fun w=>late_any w)
 rw[hC1]at HT1
 rw[hC2]at HT2
 have HC1:=hide hC1;clear hC1
 have HC2:=hide hC2;clear hC2
 obtain⟨v,hv⟩:∃v,opRow c=v:=⟨_,rfl⟩
 rw[hv]
 have HV:Hid (((opRows1.drop 0).find? (fun r=>r.code==c)).or ((opRows2.find? (fun r=>r.code==c)).or (numRow c))=v):=hv
 clear hv
 obtain⟨g,hg⟩:∃g,w.heap.size=g:=⟨_,rfl⟩
 obtain⟨W,hW⟩:∃W,w.alloc (.cells #[.int .i64 0,.string ⟨#[]⟩,.int .i64 0,.string ⟨#[]⟩,.string ⟨#[]⟩] 217)=W:=⟨_,rfl⟩
 have hblk:W.heap[g]?=some (.cells #[.int .i64 0,.string ⟨#[]⟩,.int .i64 0,.string ⟨#[]⟩,.string ⟨#[]⟩] 217 (0,0)):=by rw[←hW,←hg];exact heap_alloc_new w _
 have hb0:Below g w W:=by rw[←hW,←hg];exact(Below.refl _ _).alloc (Nat.le_refl _) _
 have HBLK:=hide hblk;clear hblk
 have HB0:=hide hb0;clear hb0
 have HW:=hide hW;clear hW
 have HG:=hide hg;clear hg
 have fin:∀(w1:World) (cs:Array Value),w1.heap[g]?=some (.cells #[.int .i64 0,.string ⟨#[]⟩,.int .i64 0,.string ⟨#[]⟩,.string ⟨#[]⟩] 217 (0,0))→Below g w w1→(w1.setRow g cs).heap[g]?=some (.cells cs 217 (0,0))∧Below g w (w1.setRow g cs):=fun w1 cs hb hl =>
  ⟨setRow_blk hb,hl.trans ((setRow_only w1 g cs).below (Nat.le_of_lt (blk_lt hb)) (by simp))⟩
 have FIN:=hide fin;clear fin
 go_enter Tryz.func125,Tryz.ntmps125
 go_wp2_with fail
 rw[HW.out,HG.out]
 refine(HT1.out _).mono ?_;rintro e w1 ⟨rfl,hb1⟩
 have blk1:=hide ((hb1.out.block g (blk_lt HBLK.out)).trans HBLK.out)
 have hbel:Hid (Below g w w1):=HB0.out.trans (hb1.out.mono (Nat.le_of_lt (blk_lt HBLK.out)))
 clear HBLK HB0 hb1
 go_wp2_with fail
 go_loopw [9] (fun i w2=>∃k:Nat,i=.int .i64 k∧k≤47∧Hid (((opRows1.drop k).find? (fun r=>r.code==c)).or ((opRows2.find? (fun r=>r.code==c)).or (numRow c))=v)∧Hid (w2.heap[g]?=some (.cells #[.int .i64 0,.string ⟨#[]⟩,.int .i64 0,.string ⟨#[]⟩,.string ⟨#[]⟩] 217 (0,0)))∧Hid (Below g w w2)) (fun i _=>47-(intOf i).toNat)
 case atStart=>exact⟨0,rfl,by omega,HV,blk1,hbel⟩
 case round =>
  clear HV blk1 hbel
  obtain⟨k,rfl,hk,hv,hblk,hb⟩:=hrel
  by_cases hlt:k<47
  ·obtain⟨r,hr⟩:∃r,opRows1[k]?=some r:=⟨_,List.getElem?_eq_getElem (by simpa [opRows1]using hlt)⟩
   have hix:∀W,(Instr.index 232 (.agg C1) (.int .i64 k)).run Tryz.prog W=.ok (.agg #[.int .i64 r.code,.string r.name,.int .i64 r.form,.string r.takes,.string r.gives]) W:=fun W=>by
    rw[←HC1.out];exact run_index_row opRows1_tab OpRow.D (fun _=>rfl) opRows1 rfl k r hr W
   have hv':=hv.out
   rw[find_drop hr]at hv'
   clear hr hv
   have hblk':Hid ((wr.alloc (.cells #[.int .i64 r.code,.string r.name,.int .i64 r.form,.string r.takes,.string r.gives] 217)).heap[g]?=_):=(Below.heap_alloc wr _ g (blk_lt hblk.out)).trans hblk.out
   have hb':Hid (Below g w (wr.alloc (.cells #[.int .i64 r.code,.string r.name,.int .i64 r.form,.string r.takes,.string r.gives] 217))):=hb.out.alloc (Nat.le_of_lt (blk_lt hblk.out)) _
   by_cases hc:r.code=c
   ·have hvv:Hid (v=some r):=by show _=_;rw[←hv',if_pos (by simp[hc])];rfl
    have fc:(r.code==c)=true:=by simpa using hc
    clear hv' hc
    go_wp2_with (refine wpList_store_row rfl 217 _ _ rfl g #[.int .i64 r.code,.string r.name,.int .i64 r.form,.string r.takes,.string r.gives] rfl rfl 217 _ hblk'.out (by kernel_rfl) rfl (by simp[Value.oneCell']) ?_)
    obtain⟨k1,k2⟩:=FIN.out _ #[.int .i64 r.code,.string r.name,.int .i64 r.form,.string r.takes,.string r.gives] hblk'.out hb'.out
    generalize (wr.alloc (.cells #[.int .i64 r.code,.string r.name,.int .i64 r.form,.string r.takes,.string r.gives] 217)).setRow g #[.int .i64 r.code,.string r.name,.int .i64 r.form,.string r.takes,.string r.gives]=W2 at k1 k2 ⊢
    have f0:W2.cell? ⟨g,0,none⟩=some (.int .i64 r.code):=cell_blk k1 0
    have f1:W2.cell? ⟨g,1,none⟩=some (.string r.name):=cell_blk k1 1
    have f2:W2.cell? ⟨g,2,none⟩=some (.int .i64 r.form):=cell_blk k1 2
    have f3:W2.cell? ⟨g,3,none⟩=some (.string r.takes):=cell_blk k1 3
    have f4:W2.cell? ⟨g,4,none⟩=some (.string r.gives):=cell_blk k1 4
    rw[hvv.out]
    refine bodyPost_ret (v:=.tuple #[.agg #[.int .i64 r.code,.string r.name,.int .i64 r.form,.string r.takes,.string r.gives],.bool true]) (by simp[results,Tryz.results125,go_sem,f0,f1,f2,f3,f4]) rfl ⟨rfl,?_⟩
    rw[HG.out]
    exact k2
   ·have fc:(r.code==c)=false:=by simpa using hc
    have hv2:Hid (((opRows1.drop (k+1)).find? (fun r=>r.code==c)).or ((opRows2.find? (fun r=>r.code==c)).or (numRow c))=v):=by
     show _=_;rw[if_neg (by simp[hc])]at hv';exact hv'
    clear hv' hc
    go_wp2_with fail
    go_roundw
    case rel=>exact⟨k+1,by go_num,by omega,hv2,hblk',hb'⟩
    case measure=>simp[intOf]<;>omega
  ·have hk47:k=47:=by omega
   subst hk47
   have hv2:Hid (((opRows2.drop 0).find? (fun r=>r.code==c)).or (numRow c)=v):=hv.out
   clear hlt hk hv
   go_wp2_with fail
   refine(HT2.out _).mono ?_;rintro e w2 ⟨rfl,hb2⟩
   have blk1:=hide ((hb2.out.block g (blk_lt hblk.out)).trans hblk.out)
   have hbel:Hid (Below g w w2):=hb.out.trans (hb2.out.mono (Nat.le_of_lt (blk_lt hblk.out)))
   clear hblk hb hb2
   go_wp2_with fail
   go_loopw [19] (fun i w2=>∃k:Nat,i=.int .i64 k∧k≤6∧Hid (((opRows2.drop k).find? (fun r=>r.code==c)).or (numRow c)=v)∧Hid (w2.heap[g]?=some (.cells #[.int .i64 0,.string ⟨#[]⟩,.int .i64 0,.string ⟨#[]⟩,.string ⟨#[]⟩] 217 (0,0)))∧Hid (Below g w w2)) (fun i _=>6-(intOf i).toNat)
   case atStart=>exact⟨0,rfl,by omega,hv2,blk1,hbel⟩
   case round =>
    clear hv2 blk1 hbel
    obtain⟨k,rfl,hk,hv,hblk,hb⟩:=hrel
    by_cases hlt:k<6
    ·obtain⟨r,hr⟩:∃r,opRows2[k]?=some r:=⟨_,List.getElem?_eq_getElem (by simpa [opRows2]using hlt)⟩
     have hix:∀W,(Instr.index 234 (.agg C2) (.int .i64 k)).run Tryz.prog W=.ok (.agg #[.int .i64 r.code,.string r.name,.int .i64 r.form,.string r.takes,.string r.gives]) W:=fun W=>by
      rw[←HC2.out];exact run_index_row opRows2_tab OpRow.D (fun _=>rfl) opRows2 rfl k r hr W
     have hv':=hv.out
     rw[find_drop hr]at hv'
     clear hr hv
     have hblk':Hid ((wr.alloc (.cells #[.int .i64 r.code,.string r.name,.int .i64 r.form,.string r.takes,.string r.gives] 217)).heap[g]?=_):=(Below.heap_alloc wr _ g (blk_lt hblk.out)).trans hblk.out
     have hb':Hid (Below g w (wr.alloc (.cells #[.int .i64 r.code,.string r.name,.int .i64 r.form,.string r.takes,.string r.gives] 217))):=hb.out.alloc (Nat.le_of_lt (blk_lt hblk.out)) _
     by_cases hc:r.code=c
     ·have hvv:Hid (v=some r):=by show _=_;rw[←hv',if_pos (by simp[hc])];rfl
      have fc:(r.code==c)=true:=by simpa using hc
      clear hv' hc
      go_wp2_with (refine wpList_store_row rfl 217 _ _ rfl g #[.int .i64 r.code,.string r.name,.int .i64 r.form,.string r.takes,.string r.gives] rfl rfl 217 _ hblk'.out (by kernel_rfl) rfl (by simp[Value.oneCell']) ?_)
      obtain⟨k1,k2⟩:=FIN.out _ #[.int .i64 r.code,.string r.name,.int .i64 r.form,.string r.takes,.string r.gives] hblk'.out hb'.out
      generalize (wr.alloc (.cells #[.int .i64 r.code,.string r.name,.int .i64 r.form,.string r.takes,.string r.gives] 217)).setRow g #[.int .i64 r.code,.string r.name,.int .i64 r.form,.string r.takes,.string r.gives]=W2 at k1 k2 ⊢
      have f0:W2.cell? ⟨g,0,none⟩=some (.int .i64 r.code):=cell_blk k1 0
      have f1:W2.cell? ⟨g,1,none⟩=some (.string r.name):=cell_blk k1 1
      have f2:W2.cell? ⟨g,2,none⟩=some (.int .i64 r.form):=cell_blk k1 2
      have f3:W2.cell? ⟨g,3,none⟩=some (.string r.takes):=cell_blk k1 3
      have f4:W2.cell? ⟨g,4,none⟩=some (.string r.gives):=cell_blk k1 4
      rw[hvv.out]
      refine bodyPost_ret (v:=.tuple #[.agg #[.int .i64 r.code,.string r.name,.int .i64 r.form,.string r.takes,.string r.gives],.bool true]) (by simp[results,Tryz.results125,go_sem,f0,f1,f2,f3,f4]) rfl ⟨rfl,?_⟩
      rw[HG.out]
      exact k2
     ·have fc:(r.code==c)=false:=by simpa using hc
      have hv2:Hid (((opRows2.drop (k+1)).find? (fun r=>r.code==c)).or (numRow c)=v):=by
       show _=_;rw[if_neg (by simp[hc])]at hv';exact hv'
      clear hv' hc
      go_wp2_with fail
      go_roundw
      case rel=>exact⟨k+1,by go_num,by omega,hv2,hblk',hb'⟩
      case measure=>simp[intOf]<;>omega
    ·have hk6:k=6:=by omega
     subst hk6
     have hvv:Hid (numRow c=v):=hv.out
     clear hlt hk hv
     go_wp2_with fail
     refine(HNB.out _).mono ?_;rintro e w3 ⟨rfl,hb3⟩
     rw[hvv.out]
     have blk3:=hide ((hb3.out.block g (blk_lt hblk.out)).trans hblk.out)
     have hbel3:Hid (Below g w w3):=hb.out.trans (hb3.out.mono (Nat.le_of_lt (blk_lt hblk.out)))
     obtain⟨r,hr⟩:∃r,v.getD zeroRow=r:=⟨_,rfl⟩
     obtain⟨q,hq⟩:∃q,v.isSome=q:=⟨_,rfl⟩
     have hrv:rowV v=.returned (.tuple #[.agg #[.int .i64 r.code,.string r.name,.int .i64 r.form,.string r.takes,.string r.gives],.bool q]):=by unfold rowV;rw[hr,hq]
     rw[hrv]
     have HRV:=hide hrv
     clear hrv hr hq
     go_wp2_with (refine wpList_store_row rfl 217 _ _ rfl g #[.int .i64 r.code,.string r.name,.int .i64 r.form,.string r.takes,.string r.gives] rfl rfl 217 _ blk3.out (by kernel_rfl) rfl (by simp[Value.oneCell']) ?_)
     obtain⟨k1,k2⟩:=FIN.out _ #[.int .i64 r.code,.string r.name,.int .i64 r.form,.string r.takes,.string r.gives] blk3.out hbel3.out
     generalize w3.setRow g #[.int .i64 r.code,.string r.name,.int .i64 r.form,.string r.takes,.string r.gives]=W2 at k1 k2 ⊢
     have f0:W2.cell? ⟨g,0,none⟩=some (.int .i64 r.code):=cell_blk k1 0
     have f1:W2.cell? ⟨g,1,none⟩=some (.string r.name):=cell_blk k1 1
     have f2:W2.cell? ⟨g,2,none⟩=some (.int .i64 r.form):=cell_blk k1 2
     have f3:W2.cell? ⟨g,3,none⟩=some (.string r.takes):=cell_blk k1 3
     have f4:W2.cell? ⟨g,4,none⟩=some (.string r.gives):=cell_blk k1 4
     refine bodyPost_ret (v:=.tuple #[.agg #[.int .i64 r.code,.string r.name,.int .i64 r.form,.string r.takes,.string r.gives],.bool q]) (by simp[results,Tryz.results125,go_sem,f0,f1,f2,f3,f4]) rfl ⟨HRV.out.symm,?_⟩
     rw[HG.out]
     exact k2
def letB (s:ByteArray) (n:Nat):Bool:=s.data.toList.all (fun c=>decide (c.toNat<128))&&decide (s.size≤n)
theorem letB_at {s:ByteArray} {n:Nat} (h:letB s n=true):(∀i (h:i<s.size),(s[i]).toNat<128)∧s.size≤n:=by
 unfold letB at h
 simp only[Bool.and_eq_true,List.all_eq_true,decide_eq_true_eq]at h
 refine⟨fun i hi=>h.1 _ ?_,h.2⟩
 have:s[i]=s.data.toList[i]'(by simpa using hi):=by simp;rfl
 rw[this]
 exact List.getElem_mem _
def rowB (r:OpRow):Bool:=letB r.takes 3&&letB r.gives 1
theorem rowB_ok {r:OpRow} (h:rowB r=true):r.Ok:=by
 unfold rowB at h
 simp only[Bool.and_eq_true]at h
 obtain⟨h1,h2⟩:=letB_at h.1
 obtain⟨h3,h4⟩:=letB_at h.2
 exact⟨h1,h2,h3,h4⟩
theorem rows_okB:(∀r∈opRows1,rowB r=true)∧(∀r∈opRows2,rowB r=true):=by decide +kernel
theorem spanRow_okB (s:OpSpan) (c:Int):rowB (spanRow s c)=true:=by
 unfold spanRow
 generalize (s.bits==64)=q
 split
 ·cases q<;>rfl
 ·split
  ·cases q<;>rfl
  ·split<;>cases q<;>rfl
theorem opRow_ok {c:Int} {r:OpRow} (h:opRow c=some r):r.Ok:=by
 apply rowB_ok
 unfold opRow at h
 cases h1:opRows1.find? (fun r=>r.code==c) with
 | some x=>rw[h1]at h;simp at h;subst h;exact rows_okB.1 _ (List.mem_of_find?_eq_some h1)
 | none =>
  rw[h1]at h
  cases h2:opRows2.find? (fun r=>r.code==c) with
  | some x=>rw[h2]at h;simp at h;subst h;exact rows_okB.2 _ (List.mem_of_find?_eq_some h2)
  | none =>
   rw[h2]at h
   simp only[Option.none_or]at h
   unfold numRow at h
   cases h3:numSpan c with
   | none=>rw[h3]at h;cases h
   | some s=>rw[h3]at h;simp at h;subst h;exact spanRow_okB s c
def FindSome (r:OpRow) (w:World) (e:Ending) (w':World):Prop :=
 ∃A1 c1 A2 c2,e=.returned (.tuple #[.agg #[.int .i64 r.code,.string r.name,.int .i64 r.form,.slice A1 r.takes.size c1,.slice A2 r.gives.size c2],.bool true]) ∧
  Hid (w'.ownsRow w.heap.size 133 1 (.slice A1 r.takes.size c1) r.takes.size ((typesL r.takes).map B))∧Hid (w'.ownsRow w.heap.size 133 1 (.slice A2 r.gives.size c2) r.gives.size ((typesL r.gives).map B))∧Hid (Below w.heap.size w w')
set_option maxHeartbeats 1600000 in
theorem find_none (c:Int) (w:World) (h1:-9223372036854775808≤c) (h2:c≤9223372036854775807) (hv:opRow c=none) :
  Calls Tryz.prog 106 #[.int .i64 c] w fun e w'=>e=.returned (.tuple #[.agg #[.int .i64 0,.string ⟨#[]⟩,.int .i64 0,.slice none 0 0,.slice none 0 0],.bool false])∧Hid (Below w.heap.size w w'):=by
 have HAT:=hide (fun w=>opAt_any c w h1 h2)
 rw[hv]at HAT
 clear hv
 obtain⟨g,hg⟩:∃g,w.heap.size=g:=⟨_,rfl⟩
 obtain⟨W,hW⟩:∃W,w.alloc (.cells #[.int .i64 0,.string ⟨#[]⟩,.int .i64 0,.slice none 0 0,.slice none 0 0] 199)=W:=⟨_,rfl⟩
 have hblk:W.heap[g]?=some (.cells #[.int .i64 0,.string ⟨#[]⟩,.int .i64 0,.slice none 0 0,.slice none 0 0] 199 (0,0)):=by rw[←hW,←hg];exact heap_alloc_new w _
 have hb0:Below g w W:=by rw[←hW,←hg];exact(Below.refl _ _).alloc (Nat.le_refl _) _
 have HBLK:=hide hblk;clear hblk
 have HB0:=hide hb0;clear hb0
 have HW:=hide hW;clear hW
 have HG:=hide hg;clear hg
 go_enter Tryz.func106,Tryz.ntmps106
 go_wp2_with fail
 rw[HW.out,HG.out]
 refine(HAT.out _).mono ?_;rintro e w1 ⟨rfl,hb1⟩
 rw[rowV_none]
 have blk1:=hide ((hb1.out.block g (blk_lt HBLK.out)).trans HBLK.out)
 have hbel:Hid (Below g w w1):=HB0.out.trans (hb1.out.mono (Nat.le_of_lt (blk_lt HBLK.out)))
 have blk2:Hid ((w1.alloc (.cells #[.int .i64 0,.string ⟨#[]⟩,.int .i64 0,.string ⟨#[]⟩,.string ⟨#[]⟩] 217)).heap[g]?=_):=(Below.heap_alloc w1 _ g (blk_lt blk1.out)).trans blk1.out
 have hbel2:Hid (Below g w (w1.alloc (.cells #[.int .i64 0,.string ⟨#[]⟩,.int .i64 0,.string ⟨#[]⟩,.string ⟨#[]⟩] 217))):=hbel.out.alloc (Nat.le_of_lt (blk_lt blk1.out)) _
 go_wp2_with (refine wpList_store_row rfl 199 _ _ rfl g #[.int .i64 0,.string ⟨#[]⟩,.int .i64 0,.slice none 0 0,.slice none 0 0] rfl rfl 199 _ blk2.out (by kernel_rfl) rfl (by simp[Value.oneCell']) ?_)
 have k1:=setRow_blk (cs:=#[.int .i64 0,.string ⟨#[]⟩,.int .i64 0,.slice none 0 0,.slice none 0 0]) blk2.out
 have k2:Below g w _:=hbel2.out.trans ((setRow_only _ g #[.int .i64 0,.string ⟨#[]⟩,.int .i64 0,.slice none 0 0,.slice none 0 0]).below (Nat.le_of_lt (blk_lt blk2.out)) (by simp))
 generalize (w1.alloc (.cells #[.int .i64 0,.string ⟨#[]⟩,.int .i64 0,.string ⟨#[]⟩,.string ⟨#[]⟩] 217)).setRow g #[.int .i64 0,.string ⟨#[]⟩,.int .i64 0,.slice none 0 0,.slice none 0 0]=W2 at k1 k2 ⊢
 have f0:W2.cell? ⟨g,0,none⟩=some (.int .i64 0):=cell_blk k1 0
 have f1:W2.cell? ⟨g,1,none⟩=some (.string ⟨#[]⟩):=cell_blk k1 1
 have f2:W2.cell? ⟨g,2,none⟩=some (.int .i64 0):=cell_blk k1 2
 have f3:W2.cell? ⟨g,3,none⟩=some (.slice none 0 0):=cell_blk k1 3
 have f4:W2.cell? ⟨g,4,none⟩=some (.slice none 0 0):=cell_blk k1 4
 refine bodyPost_ret (v:=.tuple #[.agg #[.int .i64 0,.string ⟨#[]⟩,.int .i64 0,.slice none 0 0,.slice none 0 0],.bool false]) (by simp[results,Tryz.results106,go_sem,f0,f1,f2,f3,f4]) rfl ⟨rfl,?_⟩
 rw[HG.out]
 exact k2
set_option maxHeartbeats 1600000 in
theorem find_some (c:Int) (r:OpRow) (w:World) (h1:-9223372036854775808≤c) (h2:c≤9223372036854775807) (hv:opRow c=some r) :
  Calls Tryz.prog 106 #[.int .i64 c] w (FindSome r w):=by
 have HAT:=hide (fun w=>opAt_any c w h1 h2)
 rw[hv]at HAT
 have HIN:=hide (fun w=>info_any r (hide (opRow_ok hv)) w)
 clear hv
 obtain⟨g,hg⟩:∃g,w.heap.size=g:=⟨_,rfl⟩
 obtain⟨W,hW⟩:∃W,w.alloc (.cells #[.int .i64 0,.string ⟨#[]⟩,.int .i64 0,.slice none 0 0,.slice none 0 0] 199)=W:=⟨_,rfl⟩
 have hblk:W.heap[g]?=some (.cells #[.int .i64 0,.string ⟨#[]⟩,.int .i64 0,.slice none 0 0,.slice none 0 0] 199 (0,0)):=by rw[←hW,←hg];exact heap_alloc_new w _
 have hb0:Below g w W:=by rw[←hW,←hg];exact(Below.refl _ _).alloc (Nat.le_refl _) _
 have HBLK:=hide hblk;clear hblk
 have HB0:=hide hb0;clear hb0
 have HW:=hide hW;clear hW
 have HG:=hide hg;clear hg
 go_enter Tryz.func106,Tryz.ntmps106
 go_wp2_with fail
 rw[HW.out,HG.out]
 refine(HAT.out _).mono ?_;rintro e w1 ⟨rfl,hb1⟩
 rw[rowV_some]
 have blk1:=hide ((hb1.out.block g (blk_lt HBLK.out)).trans HBLK.out)
 have hbel:Hid (Below g w w1):=HB0.out.trans (hb1.out.mono (Nat.le_of_lt (blk_lt HBLK.out)))
 go_wp2_with fail
 refine(HIN.out _).mono ?_;rintro e w2 ⟨A1,c1,A2,c2,rfl,ho1,ho2,hb2⟩
 have hsz1:=Nat.le_of_lt (blk_lt blk1.out)
 have hb2':Hid (Below w1.heap.size w1 w2):=((Below.refl _ _).alloc (Nat.le_refl _) _).trans (hb2.out.mono (by simp))
 have blk2:=hide ((hb2'.out.block g (blk_lt blk1.out)).trans blk1.out)
 have hbel2:Hid (Below g w w2):=hbel.out.trans (hb2'.out.mono hsz1)
 have hgw:=blk_lt blk1.out
 have hn1:Hid (∀q,(Value.slice A1 r.takes.size c1).ownBlock=some q→g<q):=fun q hq=>by have:=own_ge ho1.out q hq;simp at this;omega
 have hn2:Hid (∀q,(Value.slice A2 r.gives.size c2).ownBlock=some q→g<q):=fun q hq=>by have:=own_ge ho2.out q hq;simp at this;omega
 go_wp2_with (refine wpList_store_row rfl 199 _ _ rfl g #[.int .i64 r.code,.string r.name,.int .i64 r.form,.slice A1 r.takes.size c1,.slice A2 r.gives.size c2] rfl rfl 199 _ blk2.out (by kernel_rfl) rfl (by simp[Value.oneCell']) ?_)
 have k1:=setRow_blk (cs:=#[.int .i64 r.code,.string r.name,.int .i64 r.form,.slice A1 r.takes.size c1,.slice A2 r.gives.size c2]) blk2.out
 have k3:=setRow_only w2 g #[.int .i64 r.code,.string r.name,.int .i64 r.form,.slice A1 r.takes.size c1,.slice A2 r.gives.size c2]
 have k2:Below g w _:=hbel2.out.trans (k3.below (Nat.le_of_lt (blk_lt blk2.out)) (by simp))
 generalize w2.setRow g #[.int .i64 r.code,.string r.name,.int .i64 r.form,.slice A1 r.takes.size c1,.slice A2 r.gives.size c2]=W2 at k1 k2 k3 ⊢
 have f0:W2.cell? ⟨g,0,none⟩=some (.int .i64 r.code):=cell_blk k1 0
 have f1:W2.cell? ⟨g,1,none⟩=some (.string r.name):=cell_blk k1 1
 have f2:W2.cell? ⟨g,2,none⟩=some (.int .i64 r.form):=cell_blk k1 2
 have f3:W2.cell? ⟨g,3,none⟩=some (.slice A1 r.takes.size c1):=cell_blk k1 3
 have f4:W2.cell? ⟨g,4,none⟩=some (.slice A2 r.gives.size c2):=cell_blk k1 4
 refine bodyPost_ret (v:=.tuple #[.agg #[.int .i64 r.code,.string r.name,.int .i64 r.form,.slice A1 r.takes.size c1,.slice A2 r.gives.size c2],.bool true]) (by simp[results,Tryz.results106,go_sem,f0,f1,f2,f3,f4]) rfl ?_
 refine⟨A1,c1,A2,c2,rfl,?_,?_,by rw[HG.out];exact k2⟩
 ·exact own_base (own_only3 ho1.out k3 (fun q hq=>by have:=hn1.out q hq;simp;omega)) (fun q hq=>by have:=hn1.out q hq;rw[HG.out];omega)
 ·exact own_base (own_only3 ho2.out k3 (fun q hq=>by have:=hn2.out q hq;simp;omega)) (fun q hq=>by have:=hn2.out q hq;rw[HG.out];omega)
def refName (c:Int):ByteArray :=
 if c=64522 then ⟨#[109,101,109,111,114,121,46,99,111,112,121]⟩else if c=64523 then ⟨#[109,101,109,111,114,121,46,102,105,108,108]⟩
 else if c<0∨196<c then ⟨#[]⟩else refNames.getD c.toNat ⟨#[]⟩
def allCodes:List Int:=opRows1.map (·.code)++opRows2.map (·.code)++opSpans.flatMap (fun s=>(List.range s.many.toNat).map (fun i:Nat=>s.first+(i:Int)))
theorem opRow_code {c:Int} {r:OpRow} (h:opRow c=some r):c∈allCodes:=by
 unfold opRow at h
 unfold allCodes
 cases h1:opRows1.find? (fun r=>r.code==c) with
 | some x =>
  have:=List.find?_some h1
  simp only[beq_iff_eq]at this
  simp only[List.mem_append,List.mem_map]
  exact .inl (.inl ⟨x,List.mem_of_find?_eq_some h1,this⟩)
 | none =>
  rw[h1]at h
  cases h2:opRows2.find? (fun r=>r.code==c) with
  | some x =>
   have:=List.find?_some h2
   simp only[beq_iff_eq]at this
   simp only[List.mem_append,List.mem_map]
   exact .inl (.inr ⟨x,List.mem_of_find?_eq_some h2,this⟩)
  | none =>
   rw[h2]at h
   simp only[Option.none_or]at h
   unfold numRow at h
   cases h3:numSpan c with
   | none=>rw[h3]at h;cases h
   | some s =>
    have hin:inSpan c s=true:=List.find?_some h3
    have hm:s∈opSpans:=List.mem_of_find?_eq_some h3
    unfold inSpan at hin
    simp only[Bool.and_eq_true,decide_eq_true_eq]at hin
    simp only[List.mem_append,List.mem_flatMap,List.mem_map,List.mem_range]
    exact .inr ⟨s,hm,(c-s.first).toNat,by omega,by omega⟩
def codeOk (c:Int):Bool :=
 match opRow c with
 | none=>false
 | some r=>decide (r.name=refName c)&&r.form==refForm c&&!decide (refName c=⟨#[]⟩)&&!refForeign c&&!foreignL c&&r.code==c
theorem codes_ok:∀c∈allCodes,codeOk c=true:=by decide +kernel
theorem opRow_ref {c:Int} {r:OpRow} (h:opRow c=some r):r.name=refName c∧r.form=refForm c∧refName c≠⟨#[]⟩∧refForeign c=false∧foreignL c=false∧r.code=c:=by
 have:=codes_ok c (opRow_code h)
 unfold codeOk at this
 rw[h]at this
 simpa [and_assoc]using this
end Go.Proofs.YtomppgohoplemaaGreat
namespace Go.Proofs.YtomppgohoplemaaGreat
end Go.Proofs.YtomppgohoplemaaGreat
namespace Go.Proofs.YtomppgohoplemaaGreat
theorem codeN_ext {cs ds:List Int} {x:Int} (h0:0≤x) (h:x<cs.length):codeN (cs++ds) x=codeN cs x:=by
 unfold codeN
 rw[List.getD_eq_getElem?_getD,List.getD_eq_getElem?_getD,List.getElem?_append_left (by omega)]
theorem NInv.ext {cs ds:List Int} {i:Nat} {s:NS} (h:NInv cs i s) (hi:i≤cs.length):NInv (cs++ds) i s:=by
 refine⟨?_,?_,h.inc,?_,h.olt,h.oinc,?_,h.nest,h.clo⟩
 ·rw[h.cnt,List.take_append_of_le_length hi]
 ·intro j x hx
  obtain⟨a,b,c⟩:=h.beg j x hx
  exact⟨a,b,by rw[codeN_ext a (by omega)];exact c⟩
 ·intro j x hx
  obtain⟨a,b,_⟩:=h.beg j x hx
  rcases h.els j x hx with k|⟨k1,k2,k3,k4,k5⟩
  ·exact .inl k
  ·exact .inr ⟨k1,k2,by rw[codeN_ext (by omega) (by omega)];exact k3,by rw[codeN_ext a (by omega)];exact k4,k5⟩
 ·intro j x hx hj
  obtain⟨a,b,_⟩:=h.beg j x hx
  obtain⟨k1,k2,k3⟩:=h.cls j x hx hj
  exact⟨k1,k2,by rw[codeN_ext (by omega) (by omega)];exact k3⟩
theorem stepN_ext {cs ds:List Int} {c:Int} {i:Nat} {s:NS} (h:NInv cs i s) (hi:i≤cs.length):stepN (cs++ds) c i s=stepN cs c i s:=by
 unfold stepN
 split
 ·rfl
 ·split
  ·rfl
  ·split
   ·cases hl:s.opn.getLast? with
    | none=>rfl
    | some t =>
     have ht:=h.olt t (getLast_mem hl)
     have hg:=List.getElem?_eq_getElem ht
     obtain⟨a,b,_⟩:=h.beg t _ hg
     have hs:spanN s t=s.spans[t]:=by unfold spanN;rw[List.getD_eq_getElem?_getD,hg];rfl
     simp only
     rw[hs,codeN_ext a (by omega)]
   ·rfl
structure Came (cs:List Int) (s:NS):Prop where
 go:∀ds,goN (cs++ds) (cs++ds) 0 initN=goN (cs++ds) ds cs.length s
 inv:NInv cs cs.length s
theorem Came.init:Came [] initN:=⟨fun ds=>rfl,NInv.init []⟩
theorem Came.step {cs:List Int} {s:NS} {c:Int} (h:Came cs s) (h0:(stepN (cs++[c]) c cs.length s).1=0):Came (cs++[c]) (stepN (cs++[c]) c cs.length s).2:=by
 have hi:NInv (cs++[c]) cs.length s:=h.inv.ext (Nat.le_refl _)
 refine⟨fun ds=>?_,?_⟩
 ·have hs:stepN (cs++[c]++ds) c cs.length s=stepN (cs++[c]) c cs.length s:=stepN_ext hi (by simp)
  have hg:=h.go ([c]++ds)
  rw[←List.append_assoc]at hg
  rw[hg]
  show goN (cs++[c]++ds) (c::ds) cs.length s=_
  rw[goN,hs,if_neg (fun x=>x h0)]
  simp
 ·have:=hi.step (c:=c) (by simp) h0
  simpa using this
theorem Came.bad {cs:List Int} {s:NS} {c:Int} (h:Came cs s) (h0:(stepN (cs++[c]) c cs.length s).1≠0):goP (cs++[c]) 0 initN=(cs.length,(stepN (cs++[c]) c cs.length s).1):=by
 have:=h.go [c]
 unfold goP
 rw[List.drop_zero,this,goN,if_pos h0]
theorem Came.open_ {s:NS} (h:Came [] s):s.closed=false:=by
 have:=h.go []
 rw[List.append_nil,goN]at this
 simp only[initN,goN]at this
 cases hc:s.closed with
 | false=>rfl
 | true=>rw[hc]at this;simp at this
end Go.Proofs.YtomppgohoplemaaGreat
namespace Go.Proofs.YtomppgohoplemaaGreat
open Go.RowKit
section
variable {P:Program} {o:Oper} {ρ:Operand→Value} {W:World} {post:Value→World→Prop}
theorem OpOut.un {op:UnOp} {t:TypeId} {x:Operand} {v:Value} (ho:o.op=.unOp op t x) (hr:(Op.unary op (ρ x)).run P W=.ok v W) (h:post v W):OpOut P o ρ W post :=
 ⟨by unfold execOp;rw[ho];simp only[Sem.run_bind,Sem.run_pure,hr,Result.andThen_ok];exact h⟩
theorem OpOut.len {x:Operand} {t:TypeId} {A:Option Addr} {n c:Nat} (ho:o.op=.call { callee:=.builtin .len,args:=#[x],argTypes:=#[t] }) (hu:P.underlying t=some (.slice (P.elem t))) (hx:ρ x=.slice A n c) (h:post (.int .i64 n) W):OpOut P o ρ W post :=
 ⟨by unfold execOp;simp only[ho,resolve,invoke,builtin,Sem.run_bind,Sem.run_pure,Result.andThen_ok,List.map_toArray,List.map_cons,List.map_nil,hx,run_len_slice (h:=hu)];exact h⟩
end
set_option maxHeartbeats 400000 in
theorem count_any (n:Int) (c:Nat) (hc:Hid (cntN n.toNat=c)) (w:World) (h0:0≤n) (h1:n≤1000000) :
  Calls Tryz.prog 156 #[.int .i64 n] w fun e w'=>e=.returned (.int .i64 (c:Int))∧w=w':=by
 go_enter Tryz.func156,Tryz.ntmps156
 go_wp2
 go_ret
 refine⟨ret_int ?_,rfl⟩
 rw[←hc.out];unfold cntN;omega
theorem u8_elem:IsElem Tryz.prog 48 5 1 1:=IsElem.mk' Tryz.underlying48 (z:=.int .u8 0) (by kernel_rfl) rfl (by omega)
def OwnB (w:World) (base:Nat) (v:Value) (bs:List UInt8):Prop:=w.ownsRow base 5 1 v bs.length (bs.map B)
theorem OwnB.push {w:World} {base:Nat} {v:Value} {bs:List UInt8} {b:UInt8} (h:w.ownsRow base 5 1 v (bs.length+1) (bs.map B++[B b])):OwnB w base v (bs++[b]) :=
 own_cast h (by simp) (by simp)
theorem OwnB.cast {w:World} {base:Nat} {v:Value} {bs bs':List UInt8} (h:OwnB w base v bs) (e:bs=bs'):OwnB w base v bs':=e▸h
def MadeB (w:World) (bs:List UInt8) (e:Ending) (w':World):Prop:=∃A c,e=.returned (.slice A bs.length c)∧Hid (OwnB w' w.heap.size (.slice A bs.length c) bs)∧Hid (Below w.heap.size w w')∧Hid (bs.length≤c)
theorem MadeB.of {w w':World} {v:Value} {bs bs':List UInt8} (h:OwnB w' w.heap.size v bs') (he:bs'=bs) (hb:Below w.heap.size w w'):MadeB w bs (.returned v) w':=by
 subst he
 obtain⟨A,c,rfl,h1,_⟩:=own_form h
 exact⟨A,c,rfl,h,hb,h1⟩
end Go.Proofs.YtomppgohoplemaaGreat
