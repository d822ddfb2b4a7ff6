import Derived.Test.YtomppgohoplemaaGreatNBH
import Derived.Defers
import Derived.Recover
import Derived.Laws.Pointers
import Derived.Laws.EntriesVeiled
import Derived.Lib.AppendZerosOnto
import Derived.Test.YtomppgohoplemaaGreatNAU
set_option linter.unusedVariables false
namespace Go.Proofs.YtomppgohoplemaaGreat
open Go.RowKit
set_option maxRecDepth 100000 in
set_option maxHeartbeats 1600000 in
theorem catch_fault (p:Addr) (x n:Int) (w:World) (hc:w.cell? p=some (.int .i64 x)) (hz:w.frozen? p=false) (hlt:p.block<w.heap.size) :
  CallsD Tryz.prog 68 #[.pointer (some p)] (.panicking ({ v:=.iface 169 (.agg #[.int .i64 n]),recovered:=false }::[])) w fun e u' w' =>
   e=.returned (.tuple #[])∧u'=.panicking ({ v:=.iface 169 (.agg #[.int .i64 n]),recovered:=true }::[])∧w'=(w.alloc (.cells #[.int .i64 n] 169)).setCell p (.int .i64 n):=by
 have hta:∀W:World,Sem.run Tryz.prog (Instr.typeAssert (.iface 169 (.agg #[.int .i64 n])) 20 169 true) W=.ok (.tuple #[.agg #[.int .i64 n],.bool true]) W:=fun _=>rfl
 refine callsD_of_wpS Tryz.func68 rfl fun c₀ cs hu=>?_
 apply wpS_seq
 apply wpS_region
 simp[wpOpsS,go_sem,recoverD,hu,Tryz.ntmps68,Exit.thenS,hta,Array.replicate_succ]
 obtain⟨W3,hW3,hb3,hx3,hsz3⟩:=box_new w #[.int .i64 n] 169
 have f0:W3.cell? ⟨w.heap.size,0,none⟩=some (.int .i64 n):=cell_blk hx3 0
 have f1:W3.cell? p=some (.int .i64 x):=(hb3.cell hlt).trans hc
 have f2:W3.frozen? p=false:=by
  rw[←hW3,World.frozen?_alloc_old _ _ _ (Nat.ne_of_lt hlt)]
  exact hz
 rw[hW3]
 apply wpS_seq
 apply wpS_region
 simp[wpOpsS,go_sem,Exit.thenS]
 refine wpS_cond (t:=true) (by simp[Act.eval]) ?_
 simp only[if_true]
 apply wpS_region
 simp[wpOpsS,go_sem,f0,f1,f2,bodyPostS,results,Tryz.results68]
set_option maxRecDepth 100000 in
set_option maxHeartbeats 1600000 in
theorem catch_idle (p:Addr) (w:World) :
  CallsD Tryz.prog 68 #[.pointer (some p)] .returning w fun e u' w'=>e=.returned (.tuple #[])∧u'=.returning∧Hid (Below w.heap.size w w'):=by
 have hta:∀W:World,Sem.run Tryz.prog (Instr.typeAssert .nilIface 20 169 true) W=.ok (.tuple #[.agg #[.int .i64 0],.bool false]) W:=fun _=>rfl
 refine callsD_of_wpS Tryz.func68 rfl fun c₀ cs hu=>?_
 apply wpS_seq
 apply wpS_region
 simp[wpOpsS,go_sem,recoverD,hu,Tryz.ntmps68,Exit.thenS,hta,Array.replicate_succ]
 have hb:=(Below.refl w.heap.size w).alloc (Nat.le_refl _) (.cells #[.int .i64 0] 169)
 have HB:=hide hb
 clear hb
 obtain⟨W3,hW3⟩:∃W3,w.alloc (.cells #[.int .i64 0] 169)=W3:=⟨_,rfl⟩
 rw[hW3]at HB ⊢
 apply wpS_seq
 apply wpS_region
 simp[wpOpsS,go_sem,Exit.thenS]
 refine wpS_cond (t:=false) (by simp[Act.eval]) ?_
 simp only[Bool.false_eq_true,if_false]
 refine wpS_of_wp (wp_skip ?_)
 cases c₀
 simp_all[bodyPostS,results,Tryz.results68]
theorem setCell_same {w:World} {g:Nat} {v:Value} {t:TypeId} (h:w.heap[g]?=some (.cells #[v] t (0,0))):w.setCell ⟨g,0,none⟩ v=w:=by
 have hO:Only [g] w (w.setCell ⟨g,0,none⟩ v):=Only.setCell w (p:=⟨g,0,none⟩) (by simp) _
 have hh:(w.setCell ⟨g,0,none⟩ v).heap=w.heap:=by
  apply Array.ext_getElem?
  intro k
  by_cases hk:k<w.heap.size
  ·by_cases hg:k=g
   ·subst hg
    rw[h,setCell_blk h 0 v]
    rfl
   ·exact hO.block k hk (by simpa using hg)
  ·have hsz:(w.setCell ⟨g,0,none⟩ v).heap.size=w.heap.size:=by simp[World.setCell]
   rw[Array.getElem?_eq_none (by omega),Array.getElem?_eq_none (by omega)]
 have:w.setCell ⟨g,0,none⟩ v={ w with heap:=(w.setCell ⟨g,0,none⟩ v).heap }:=rfl
 rw[this,hh]
def SafeP (w:World) (K:KX) (vs vb:Value) (r:RR PS) (e:Ending) (w':World):Prop:=match r with
 | .ok s=>∃vs' vb' cs',e=.returned (.int .i64 0)∧Hid (CK w' K vs' vb' cs' s.st)∧Hid (NW w w' K.cb vs vb vs' vb')∧Hid (s.bl=cs'.map CB.p)
 | .bad n=>e=.returned (.int .i64 (n:Int))∧Hid (Below K.bs w w')
set_option maxRecDepth 100000 in
set_option maxHeartbeats 1600000 in
theorem csafe_any (K:KX) (vs vb:Value) (cs:List CB) (st:List UInt8) (x:XL) (w:World) (R:RR PS) (h:Hid (CK w K vs vb cs st))
  (hstep:∀V:World,Below w.heap.size w V→Hid (Calls Tryz.prog 69 #[.pointer (some ⟨K.cb,0,none⟩),insV2 x] V (StP V K vs vb R (.tuple #[])))) :
  Calls Tryz.prog 44 #[.pointer (some ⟨K.cb,0,none⟩),insV2 x] w (SafeP w K vs vb R):=by
 obtain⟨W,hW,hbw,hx,hsz⟩:=ins_box w x
 obtain⟨ig,hig⟩:∃ig,w.heap.size=ig:=⟨_,rfl⟩
 rw[hig]at hx hsz
 obtain⟨W2,hW2,hbw2,hx2,hsz2⟩:=box_new W #[.int .i64 0] 36
 rw[hsz]at hx2 hsz2
 have hB2:Below w.heap.size w W2:=hbw.trans (hbw2.mono hbw.size)
 have HB2:=hide hB2
 have hI2:=hide ((hbw2.block ig (blk_lt hx)).trans hx)
 have hk2:=hide (h.out.quiet hB2)
 have hn2:Hid (NW w W2 K.cb vs vb vs vb):=NW.of_below hB2
 have HS:=hstep W2 hB2
 have HX2:=hide hx2;have HW:=hide hW;have HW2:=hide hW2;have HIG:=hide hig;have HH:=h
 have nk:ig+1≠K.cb:=by have:=h.out.size.2;omega
 have nvs:vs.ownBlock≠some (ig+1):=fun e=>by have:=own_lt h.out.os _ e;omega
 have nvb:vb.ownBlock≠some (ig+1):=fun e=>by have:=own_lt h.out.ob _ e;omega
 have hbsx:=h.out.size.1
 have hmf:∀(fn:Fn) (first cap:Array Value) (w:World),(Instr.makeFunc fn first cap).run Tryz.prog w=.ok (.func fn first cap) w:=fun _ _ _ _=>rfl
 clear hW hW2 hx hx2 hsz hsz2 hbw hbw2 hB2 hig hstep
 have i0:W2.cell? ⟨ig,0,none⟩=some (.int .i64 x.code):=cell_blk hI2.out 0
 have i1:W2.cell? ⟨ig,1,none⟩=some (.int .u64 (x.a:Int)):=cell_blk hI2.out 1
 have i2:W2.cell? ⟨ig,2,none⟩=some (.int .u64 (x.b:Int)):=cell_blk hI2.out 2
 have i3:W2.cell? ⟨ig,3,none⟩=some (.int .i64 x.al):=cell_blk hI2.out 3
 have i4:W2.cell? ⟨ig,4,none⟩=some (.slice x.l.at_ x.l.l.length x.l.cap):=cell_blk hI2.out 4
 unfold insV2 at HS ⊢
 go_enter_defers Tryz.func44,Tryz.ntmps44
 go_upto_region 1 with fail
 rw[HW.out,HIG.out,HW2.out]
 go_wp2_with fail
 cases R with
 | bad n =>
  unfold StP at HS
  simp only at HS
  unfold SafeP
  simp only
  refine HS.out.mono ?_;rintro e w5 ⟨rfl,h5⟩
  obtain⟨vs5,vb5,hn5⟩:=h5.out
  have hx5:=(NW.fresh hn5 (blk_lt HX2.out) nk nvs nvb).1.trans HX2.out
  have e0:w5.cell? ⟨ig+1,0,none⟩=some (.int .i64 0):=cell_blk hx5 0
  have z0:=frozen_blk hx5 0
  have hgs:=blk_lt hx5
  have hB5:=hide (NW.belowB (hn2.out.trans hn5) HH.out)
  have hbs2:K.bs≤ig+1:=by have:=HIG.out;omega
  unfold flt
  go_wp2_with fail
  refine leaves_cons (f:=68) (args:=#[.pointer (some ⟨ig+1,0,none⟩)]) (by simp) (by simp[go_sem]) ?_
  refine(catch_fault ⟨ig+1,0,none⟩ 0 n w5 e0 z0 hgs).mono ?_
  rintro e u' w'' ⟨rfl,rfl,rfl⟩
  obtain⟨W6,hW6,hb6,hx6,hsz6⟩:=box_new w5 #[.int .i64 (n:Int)] 169
  rw[hW6]
  have hx7:=setCell_blk ((hb6.block (ig+1) hgs).trans hx5) 0 (.int .i64 (n:Int))
  have hO7:Only [ig+1] W6 (W6.setCell ⟨ig+1,0,none⟩ (.int .i64 (n:Int))):=Only.setCell W6 (p:=⟨ig+1,0,none⟩) (by simp) _
  have e7:(W6.setCell ⟨ig+1,0,none⟩ (.int .i64 (n:Int))).cell? ⟨ig+1,0,none⟩=some (.int .i64 (n:Int)):=cell_blk hx7 0
  have hfin:Below K.bs w (W6.setCell ⟨ig+1,0,none⟩ (.int .i64 (n:Int))):=(hB5.out.trans (hb6.mono (Nat.le_trans hbs2 (Nat.le_of_lt hgs)))).setCell (p:=⟨ig+1,0,none⟩) hbs2 _
  generalize W6.setCell ⟨ig+1,0,none⟩ (.int .i64 (n:Int))=W7 at e7 hfin ⊢
  have HFIN:=hide hfin
  simp[Leaves,settle,results,Tryz.results44,go_sem,e7]
  exact HFIN
 | ok s =>
  unfold StP at HS
  simp only at HS
  unfold SafeP
  simp only
  refine HS.out.mono ?_;rintro e w5 ⟨vs5,vb5,cs5,rfl,hk5,hn5,hbl5⟩
  have hx5:=(hn5.out.fresh (blk_lt HX2.out) nk nvs nvb).1.trans HX2.out
  have e0:w5.cell? ⟨ig+1,0,none⟩=some (.int .i64 0):=cell_blk hx5 0
  have z0:=frozen_blk hx5 0
  have hgs:=blk_lt hx5
  go_wp2_with fail
  refine leaves_cons (f:=68) (args:=#[.pointer (some ⟨ig+1,0,none⟩)]) (by simp) (by simp[go_sem]) ?_
  refine(catch_idle ⟨ig+1,0,none⟩ _).mono ?_
  rintro e u' w'' ⟨rfl,rfl,hb6⟩
  have hsame:=setCell_same hx5
  rw[hsame]at hb6
  have hk7:=hk5.out
  have hn7:=hn2.out.trans hn5.out
  have hx7:=hx5
  have hx8:=(hb6.out.block (ig+1) (blk_lt hx7)).trans hx7
  have e7:w''.cell? ⟨ig+1,0,none⟩=some (.int .i64 0):=cell_blk hx8 0
  have hk8:=hide (hk7.quiet hb6.out)
  have hn8:=hide (hn7.trans (NW.of_below hb6.out))
  simp[Leaves,settle,results,Tryz.results44,go_sem,e7]
  exact⟨vs5,vb5,cs5,rfl,hk8,hn8,hbl5⟩
theorem wpList_append_run {P:Program} {ops:Array Oper} {rest:List Oper} {o:Oper} {a:Act} {w w':World} {Q:Exit→Act→World→Prop} {v va vb:Value} {t tn:TypeId} (hgd:o.guard=none) (s x:Operand)
  (ho:o.op=.call { callee:=.builtin .append,args:=#[s,x],argTypes:=#[t,tn] }) (hs:a.eval s=va) (hx:a.eval x=vb)
  (hr:(Builtin.append_ #[t,tn] o.type #[va,vb]).run P w=.ok v w') (h:wpList P ops Q rest (a.put o.dst v) w'):wpList P ops Q (o::rest) a w :=
 wpList_plain hgd fun _ hK=>by
  unfold Oper.wp execOp
  simp only[ho,resolve,invoke,builtin,Sem.run_bind,Sem.run_pure,Result.andThen_ok,List.map_toArray,List.map_cons,List.map_nil,hs,hx,hr]
  exact hK _ _ h
set_option maxRecDepth 100000 in
set_option maxHeartbeats 1600000 in
theorem grow_nil (n:Nat) (w:World) (hn:n≤100000) :
  Calls Tryz.prog 95 #[.slice none 0 0,.int .i64 (n:Int)] w fun e w'=>∃v,e=.returned v∧Hid (w'.ownsRow w.heap.size 133 1 v 0 [])∧Hid (Below w.heap.size w w'):=by
 by_cases h0:n=0
 ·subst h0
  go_enter Tryz.func95,Tryz.ntmps95
  go_wp2_with fail
  go_ret
  exact⟨_,rfl,own_nil _ _ _ _,Below.refl _ _⟩
 ·have hns:Builtin.nextslicecap (0+n) 0*1≤281474976710656:=by
   have:=nextslicecap_le (need:=0+n) (old:=0) (by omega)
   omega
  have hap:=Go.Lib.run_append_grow_zeros (P:=Tryz.prog) w 73 3 73 133 _ _ .i64 _ Tryz.underlying73 rfl (by rfl) (by rfl) none 0 0 [] (by rfl) n (by omega) (by decide) (by omega) (by omega) (by show n*1≤_;omega) hns
  have h1:¬((n:Int)<0):=by omega
  have hge:=grownCap_ge w (0+n) 0 133
  have hle:=grownCap_le_maxLen w (0+n) 0 133 (by unfold maxLen;omega)
  rw[Nat.zero_add]at hap hge hle
  obtain⟨cp,hcp⟩:∃cp,grownCap w n 0 133=cp:=⟨_,rfl⟩
  rw[hcp]at hap hge hle
  obtain⟨W,hW⟩:∃W,(w.drew.alloc (.cells ((#[]:Array Value)++Builtin.zeroCells (Value.int IntKind.u8 0).cells n++Builtin.zeroCells (Value.int IntKind.u8 0).cells (cp-n)) 133))=W:=⟨_,rfl⟩
  have hxW:W.heap[w.heap.size]?=some (.cells ((#[]:Array Value)++Builtin.zeroCells (Value.int IntKind.u8 0).cells n++Builtin.zeroCells (Value.int IntKind.u8 0).cells (cp-n)) 133 (0,0)):=by rw[←hW];exact heap_alloc_new w.drew _
  have hbW:Below w.heap.size w W:=by rw[←hW];exact((Below.refl _ _).drew).alloc (Nat.le_refl _) _
  have hsz:((#[]:Array Value)++Builtin.zeroCells (Value.int IntKind.u8 0).cells n++Builtin.zeroCells (Value.int IntKind.u8 0).cells (cp-n)).size=cp*1:=by
   simp[Builtin.zeroCells,Value.cells]
   omega
  have hown:W.ownsRow w.heap.size 133 1 (.slice (some ⟨w.heap.size,0,none⟩) 0 cp) 0 []:=⟨rfl,.inr ⟨w.heap.size,cp,_,rfl,Nat.le_refl _,hxW,Nat.zero_le _,hle,hsz,by simp⟩⟩
  have hap2:(Builtin.append_ #[73,3] 73 #[.slice none 0 0,.int .i64 (n:Int)]).run Tryz.prog w=.ok (.slice (some ⟨w.heap.size,0,none⟩) n cp) W:=by rw[hap,←hW]
  have HO:=hide hown;have HB:=hide hbW;have HAP:=hide hap2
  have hcp0:(0:Int)≤(cp:Int):=by omega
  clear hap hcp hW hxW hsz hown hbW hns hge hle hap2
  go_enter Tryz.func95,Tryz.ntmps95
  go_wp2_with (refine wpList_append_run rfl _ _ rfl rfl rfl HAP.out ?_)
  go_ret
  exact⟨_,rfl,HO,HB⟩
theorem type_elemC:IsElem Tryz.prog 73 133 1 1:=type_elem16
set_option maxRecDepth 100000 in
set_option maxHeartbeats 3200000 in
theorem concat_any (sp sq:Sl UInt8) (bg:Nat) (w:World) (hp:Hid (Row w 1 bD sp)) (hq:Hid (Row w 1 bD sq)) (hb:Hid (w.heap[bg]?=some (.cells #[.slice sp.at_ sp.l.length sp.cap,.slice sq.at_ sq.l.length sq.cap] 73 (0,0)))) (h1:sp.l.length≤1000) (h2:sq.l.length≤10000) :
  Calls Tryz.prog 63 #[.slice (some ⟨bg,0,none⟩) 2 2] w fun e w'=>∃s:Sl UInt8,e=.returned (.slice s.at_ s.l.length s.cap)∧Hid (s.l=sp.l++sq.l)∧Hid (Row w' 1 bD s)∧Hid (Below w.heap.size w w'):=by
 have b0:w.cell? ⟨bg,0,none⟩=some (.slice sp.at_ sp.l.length sp.cap):=cell_blk hb.out 0
 have b1:w.cell? ⟨bg,1,none⟩=some (.slice sq.at_ sq.l.length sq.cap):=cell_blk hb.out 1
 obtain⟨n,hn⟩:∃n,sp.l.length+sq.l.length=n:=⟨_,rfl⟩
 have HG:=hide (grow_nil n w (by omega))
 have HSP:=hp;have HSQ:=hq;have HBG:=hb;have HN:=hide hn
 have hbl:=blk_lt hb.out
 have s1:(0:Int)+(sp.l.length:Int)=(sp.l.length:Int):=by omega
 have s2:(sp.l.length:Int)+(sq.l.length:Int)=(n:Int):=by omega
 clear hn
 go_enter Tryz.func63,Tryz.ntmps63
 go_wp2_with fail
 go_loopw [3,11] (fun sz i w1=>∃k:Nat,i=.int .i64 (k:Int)∧w=w1∧((k=0∧sz=.int .i64 0)∨(k=1∧sz=.int .i64 (sp.l.length:Int))∨(k=2∧sz=.int .i64 (n:Int)))) (fun _ i _=>2-(intOf i).toNat)
 case atStart=>exact⟨0,rfl,rfl,.inl ⟨rfl,rfl⟩⟩
 case round =>
  obtain⟨k,rfl,rfl,hcase⟩:=hrel
  rcases hcase with ⟨rfl,rfl⟩|⟨rfl,rfl⟩|⟨rfl,rfl⟩
  ·go_wp2_with fail
   go_roundw
   case rel=>exact⟨1,by go_num,(by first|trivial|rfl),.inr (.inl ⟨rfl,by go_num⟩)⟩
   case measure=>simp[intOf]
  ·go_wp2_with fail
   go_roundw
   case rel=>exact⟨2,by go_num,(by first|trivial|rfl),.inr (.inr ⟨rfl,by go_num⟩)⟩
   case measure=>simp[intOf]
  ·go_wp2_with fail
   refine HG.out.mono ?_;rintro e w2 ⟨v2,rfl,ho2,hb2⟩
   go_wp2_with fail
   have hown0:Hid (w2.ownsRow w.heap.size 133 1 v2 0 []):=ho2
   have hB0:=hb2
   clear ho2 hb2 HG
   go_loopw [6,27] (fun v i w3=>∃(k:Nat) (xs:List UInt8),i=.int .i64 (k:Int)∧Hid (w3.ownsRow w.heap.size 133 1 v xs.length (xs.map B))∧Hid (Below w.heap.size w w3)∧((k=0∧xs=[])∨(k=1∧xs=sp.l)∨(k=2∧xs=sp.l++sq.l))) (fun _ i _=>2-(intOf i).toNat)
   case atStart=>exact⟨0,[],rfl,hown0,hB0,.inl ⟨rfl,rfl⟩⟩
   case round =>
   obtain⟨k,xs,rfl,hown,hbb,hcase⟩:=hrel
   have hbr:=hide ((hbb.out.block bg hbl).trans HBG.out)
   rcases hcase with ⟨rfl,rfl⟩|⟨rfl,rfl⟩|⟨rfl,rfl⟩
   ·have x0:wr.cell? ⟨bg,0,none⟩=some (.slice sp.at_ sp.l.length sp.cap):=cell_blk hbr.out 0
    have hrx:=hide ((HSP.out.below hbb.out).bytes)
    go_wp2_with (refine wpList_append_any rfl _ _ rfl w.heap.size type_elemC _ _ _ rfl hown.out wr.heap.size _ _ _ (sp.l.map B) rfl hrx.out (by intro u hu;obtain⟨c,_,rfl⟩:=List.mem_map.1 hu;rfl) (room_of (by first|omega|(simp;omega)|simp) (by omega)) hbb.out.size ?_;intro v' w' ho' hg')
    have hb3:Hid (Below w.heap.size w w'):=hbb.out.trans ((hg'.only).below hbb.out.size (fun q hq=>own_ge hown.out q (Option.mem_toList.1 hq)))
    have ho3:Hid (w'.ownsRow w.heap.size 133 1 v' (sp.l).length ((sp.l).map B)):=own_cast ho' (by simp) (by simp)
    clear hg' ho'
    go_roundw
    case rel=>exact⟨1,sp.l,by go_num,ho3,hb3,.inr (.inl ⟨rfl,rfl⟩)⟩
    case measure=>simp[intOf]
   ·have x0:wr.cell? ⟨bg,1,none⟩=some (.slice sq.at_ sq.l.length sq.cap):=cell_blk hbr.out 1
    have hrx:=hide ((HSQ.out.below hbb.out).bytes)
    go_wp2_with (refine wpList_append_any rfl _ _ rfl w.heap.size type_elemC _ _ _ rfl hown.out wr.heap.size _ _ _ (sq.l.map B) rfl hrx.out (by intro u hu;obtain⟨c,_,rfl⟩:=List.mem_map.1 hu;rfl) (room_of (by first|omega|(simp;omega)|simp) (by omega)) hbb.out.size ?_;intro v' w' ho' hg')
    have hb3:Hid (Below w.heap.size w w'):=hbb.out.trans ((hg'.only).below hbb.out.size (fun q hq=>own_ge hown.out q (Option.mem_toList.1 hq)))
    have ho3:Hid (w'.ownsRow w.heap.size 133 1 v' (sp.l++sq.l).length ((sp.l++sq.l).map B)):=own_cast ho' (by simp) (by simp)
    clear hg' ho'
    go_roundw
    case rel=>exact⟨2,sp.l++sq.l,by go_num,ho3,hb3,.inr (.inr ⟨rfl,rfl⟩)⟩
    case measure=>simp[intOf]
   ·obtain⟨A6,c6,rfl,_,_⟩:=own_form hown.out
    obtain⟨hrow,_⟩:=own_row hown.out
    have HROW:=hide hrow
    clear hrow
    go_wp2_with fail
    go_ret
    exact⟨⟨A6,c6,sp.l++sq.l⟩,(by show _=Ending.returned (.slice A6 (sp.l++sq.l).length c6);rw[List.length_append];rfl),rfl,HROW,hbb⟩
def LocP (l:List UInt8) (ok:Bool) (w:World) (e:Ending) (w':World):Prop :=
 ∃s:Sl UInt8,e=.returned (.tuple #[.slice s.at_ s.l.length s.cap,.bool ok])∧Hid (s.l=l)∧Hid (Row w' 1 bD s)∧Hid (Below w.heap.size w w')
set_option maxRecDepth 100000 in
set_option maxHeartbeats 1600000 in
theorem locals_out_any (g:Nat) (m:MoL) (f:Int) (w:World) (h:Hid (MoAt w g m)) (hf:f<0∨(m.funcs.l.length:Int)≤f) :
  Calls Tryz.prog 42 #[.pointer (some ⟨g,0,none⟩),.int .i64 f] w (LocP [] false w):=by
 obtain⟨_,_,c2,_,_,_,_,_,_,_⟩:=h.out.cells
 by_cases h0:f<0
 ·clear hf
  go_enter Tryz.func42,Tryz.ntmps42
  go_wp2_with fail
  go_ret2
  exact⟨⟨none,0,[]⟩,rfl,rfl,⟨Reads.none_,Nat.le_refl _,by unfold maxLen;exact Nat.zero_le _⟩,Below.refl _ _⟩
 ·have h1:(m.funcs.l.length:Int)≤f:=hf.resolve_left h0
  clear hf
  go_enter Tryz.func42,Tryz.ntmps42
  go_wp2_with fail
  go_ret2
  exact⟨⟨none,0,[]⟩,rfl,rfl,⟨Reads.none_,Nat.le_refl _,by unfold maxLen;exact Nat.zero_le _⟩,Below.refl _ _⟩
def sP:Option SgL→Sl UInt8
 | some s=>s.p
 | none=>⟨none,0,[]⟩
def sR:Option SgL→Sl UInt8
 | some s=>s.r
 | none=>⟨none,0,[]⟩
theorem sigV_eq (o:Option SgL):sigV o=.tuple #[.agg #[.slice (sP o).at_ (sP o).l.length (sP o).cap,.slice (sR o).at_ (sR o).l.length (sR o).cap],.bool o.isSome]:=by cases o<;>rfl
theorem sP_row {m:MoL} {f:Int} {w:World} (h:MoIn w m) (hz:MoSz m):Row w 1 bD (sP (sigL m f))∧(sP (sigL m f)).l.length≤1000:=by
 cases hq:sigL m f with
 | none=>exact⟨⟨Reads.none_,Nat.le_refl _,by unfold maxLen;exact Nat.zero_le _⟩,by simp[sP]⟩
 | some s =>
  have hm:s∈m.sigs.l:=by
   unfold sigL at hq
   cases hn:mnumL m f with
   | none=>rw[hn]at hq;cases hq
   | some n =>
    rw[hn]at hq
    simp only[Option.bind_some]at hq
    split at hq
    ·exact List.mem_of_getElem? hq
    ·cases hq
  exact⟨(h.sig s hm).1,(hz.sig s hm).1⟩
set_option maxRecDepth 100000 in
set_option maxHeartbeats 3200000 in
theorem locals_in_any (g:Nat) (m:MoL) (f:Nat) (y:FuL) (w:World) (h:Hid (MoAt w g m)) (hz:Hid (MoSz m)) (hy:m.funcs.l[f]?=some y) (hlen:y.bd.loc.l.length≤10000) :
  Calls Tryz.prog 42 #[.pointer (some ⟨g,0,none⟩),.int .i64 (f:Int)] w (LocP ((sP (sigL m ((m.imps.l.length+f:Nat):Int))).l++y.bd.loc.l) (sigL m ((m.imps.l.length+f:Nat):Int)).isSome w):=by
 obtain⟨_,c1,c2,_,_,_,_,_,_,_⟩:=h.out.cells
 have z1:=hz.out.imps;have z2:=hz.out.funcs;have z3:=hz.out.sigs
 obtain⟨fi,hfi⟩:∃fi:Nat,m.imps.l.length+f=fi:=⟨_,rfl⟩
 have hlt:f<m.funcs.l.length:=by
  apply Decidable.byContradiction
  intro hh
  rw[List.getElem?_eq_none (by omega)]at hy
  cases hy
 have s1:(m.imps.l.length:Int)+(f:Int)=(fi:Int):=by omega
 have HC:=hide (msig_any g m (fi:Int) w h (by omega) (by omega) (by omega) (by omega) (by omega))
 obtain⟨hpr,hpl⟩:=sP_row (f:=(fi:Int)) h.out.in_ hz.out
 have HPR:=hide hpr
 rw[hfi]
 obtain⟨o,ho⟩:∃o,sigL m (fi:Int)=o:=⟨_,rfl⟩
 rw[ho]at HC HPR hpl ⊢
 rw[sigV_eq]at HC
 obtain⟨P,hP⟩:∃P,sP o=P:=⟨_,rfl⟩
 obtain⟨R,hR⟩:∃R,sR o=R:=⟨_,rfl⟩
 obtain⟨ok,hok⟩:∃ok,o.isSome=ok:=⟨_,rfl⟩
 rw[hP,hok]at HC ⊢
 rw[hR]at HC
 rw[hP]at HPR hpl
 have h1:¬((m.funcs.l.length:Int)≤(f:Int)):=by omega
 have h2:¬((f:Int)<0):=by omega
 have h3:(f:Int)<(m.funcs.l.length:Int):=by omega
 have HY:=hide hy;have HH:=h
 clear hfi ho hP hR hok hpr hy
 go_enter Tryz.func42,Tryz.ntmps42
 go_wp2_with fail
 refine HC.out.mono ?_;rintro e w1 ⟨rfl,hb1⟩
 obtain⟨W,hW,hbW,hxW,hsW⟩:=box_new w1 #[.slice P.at_ P.l.length P.cap,.slice R.at_ R.l.length R.cap] 87
 obtain⟨xg,hxg⟩:∃xg,w1.heap.size=xg:=⟨_,rfl⟩
 rw[hxg]at hxW
 have HB:Hid (Below w.heap.size w W):=hb1.out.trans (hbW.mono hb1.out.size)
 have hM:=HH.out.below HB.out
 obtain⟨_,_,c2,_,_,_,_,_,_,_⟩:=hM.cells
 obtain⟨ad,ha,_,k0,kj⟩:=hM.in_.funcs.at_ (fun _=>rfl) HY.out
 have q1:W.cell? ⟨(ad.add (f*3)).block,(ad.add (f*3)).off+1,none⟩=some (.slice y.bd.loc.at_ y.bd.loc.l.length y.bd.loc.cap):=kj 1 (by omega) (by omega) _ rfl
 have d0:W.cell? ⟨xg,0,none⟩=some (.slice P.at_ P.l.length P.cap):=cell_blk hxW 0
 rw[ha]at c2
 have hrp:=hide (HPR.out.below HB.out)
 have hrl:=hide (hM.in_.func y (List.mem_of_getElem? HY.out)).2.loc
 have HW:=hide hW;have HXG:=hide hxg
 clear hW hbW hxW hsW hxg hM k0 kj ha hb1 HC
 go_upto_region 4 with fail
 rw[HW.out,HXG.out]
 have l1:=blk_lt (show W.heap[g]?=_ from (HH.out.below HB.out).blk)
 have l2:=World.block_lt_of_cell? W _ d0
 have l3:=World.block_lt_of_cell? W _ q1
 have HCC:=hide (fun (V:World) (hV:Below W.heap.size W V) (hb:V.heap[W.heap.size]?=some (.cells #[.slice P.at_ P.l.length P.cap,.slice y.bd.loc.at_ y.bd.loc.l.length y.bd.loc.cap] 73 (0,0)))=>concat_any P y.bd.loc W.heap.size V (hide (hrp.out.below hV)) (hide (hrl.below hV)) (hide hb) hpl hlen)
 go_region_law (go_simp;go_at_call 63;refine(HCC.out _ (by first|exact((Below.refl _ _).drew).alloc (Nat.le_refl _) _|exact((Below.refl _ _).alloc (Nat.le_refl _) _).drew) (by first|exact heap_alloc_new W.drew _|exact heap_alloc_new W _)).mono ?_;rintro e w5 ⟨s,rfl,hs,hr,hb5⟩)
 all_goals
  go_wp2_with fail
  go_ret2
  refine⟨s,rfl,hs,hr,?_⟩
  have hq:Below W.heap.size W _:=((Below.refl W.heap.size W).alloc (Nat.le_refl _) (.cells #[.slice P.at_ P.l.length P.cap,.slice y.bd.loc.at_ y.bd.loc.l.length y.bd.loc.cap] 73)).drew
  exact HB.out.trans ((hq.trans (hb5.out.mono hq.size)).mono HB.out.size)
def codesB (b:MBd):List Int:=b.l.map (·.code)
def runB (r:Nat×UInt8):List UInt8:=putN r.1++[r.2]
def encB (b:MBd):List UInt8:=putN (brunsL b.loc).length++((brunsL b.loc).flatMap runB++b.l.flatMap encX)
def nestE (b:MBd):Nat:=(goN (codesB b) (codesB b) 0 initN).2.1
def errB (b:MBd):Nat:=if rightB b then (if nestE b≠0 then nestE b else if 4096<(encB b).length then 15 else 0)else 1
theorem OwnB.appB {w:World} {base:Nat} {v:Value} {xs bs:List UInt8} (h:w.ownsRow base 5 1 v (xs.length+bs.length) (xs.map B++bs.map B)):OwnB w base v (xs++bs):=by
 unfold OwnB
 rw[List.length_append,List.map_append]
 exact h
theorem u64_nat (n:Nat) (h:n<18446744073709551616):IntKind.u64.wrap (n:Int)=(n:Int):=by
 rw[show IntKind.u64.wrap (n:Int)=(n:Int)%18446744073709551616 from by simp[IntKind.wrap,IntKind.bits,IntKind.signed]]
 omega
structure OB (W:World) (base:Nat) (w:World) (v:Value) (ys:List UInt8):Prop where
 own:OwnB w base v ys
 bel:Below base W w
 size:base≤w.heap.size
theorem OB.put {W w w1 w2:World} {base:Nat} {v v':Value} {ys bs:List UInt8} (h:OB W base w v ys) (hb:Below w.heap.size w w1) (ho:OwnB w2 base v' (ys++bs)) (hg:Grows w1 w2 v v'):OB W base w2 v' (ys++bs) :=
 ⟨ho,hg.below' (h.bel.trans (hb.mono h.size)) (Nat.le_trans h.size hb.size) (own_ge h.own),Nat.le_trans h.size (Nat.le_trans hb.size hg.by_.size)⟩
theorem OB.step {W w w1:World} {base:Nat} {v:Value} {ys:List UInt8} (h:OB W base w v ys) (hb:Below w.heap.size w w1):OB W base w1 v ys :=
 ⟨own_grew h.own hb,h.bel.trans (hb.mono h.size),Nat.le_trans h.size hb.size⟩
theorem XL.il {w:World} {y:BdL} (h:BdIn w y):IL w y.l.at_ y.l.l.length (y.l.l.map XL.t) (codesB y.g):=by
 refine⟨?_,by simp,?_,?_,?_⟩
 ·have:=h.l.r
  rwa [show y.l.l.flatMap XL.cs=(y.l.l.map XL.t).flatMap insD from by rw[List.flatMap_map];rfl]at this
 ·simp[codesB,BdL.g,XL.t,XL.x]
 ·intro c hc
  simp only[codesB,BdL.g,List.map_map,List.mem_map]at hc
  obtain⟨x,hx,rfl⟩:=hc
  have:=h.num x hx
  exact⟨this.c1,this.c2⟩
 ·intro x hx
  obtain⟨z,_,rfl⟩:=List.mem_map.1 hx
  rfl
theorem puts_len2 (l:List Nat):(l.flatMap putN).length≤10*l.length:=putsL_len l
theorem putSN_le (n:Int) (h:-9223372036854775808≤n∧n≤9223372036854775807):(putSN n).length≤10:=by unfold putSN;rw[putS_length];have:=sizeS_bd n h.1 h.2;omega
theorem encX_le {x:XI} (hx:x.In) (h:rightX x=true):(encX x).length≤2000:=by
 obtain⟨_,_,hc,hf⟩:=right_some h
 have hh:(headL x.code).length≤11:=by
  unfold headL
  split
  ·simp
  ·have:=putN_length (x.code-64512).toNat;simp;omega
 have hb:(bodyL (refForm x.code) x).length≤1100:=by
  generalize refForm x.code=f at *
  have p1:=putN_length x.a;have p2:=putN_length x.b;have p3:=putN_length x.al.toNat;have p4:=putN_length (x.al.toNat+64);have p5:=putN_length x.l.length;have p6:=puts_len2 x.l
  have p7:=putSN_le (constI (x.code==66) x.a) ⟨(constI_bd _ _ hx.a).1,(constI_bd _ _ hx.a).2.1⟩
  unfold rightF at hf
  by_cases f3:f=3
  ·subst f3
   simp at hf
   have:x.l.length≤100:=hf.2.2.1
   rw[show bodyL 3 x=putN x.l.length++(x.l.flatMap putN++putN x.a)from by simp[bodyL],List.length_append,List.length_append]
   omega
  ·unfold bodyL
   (repeat' split)<;>simp<;>omega
 unfold encX
 rw[List.length_append]
 omega
theorem runs_le:∀(l:List (Nat×UInt8)),(l.flatMap runB).length≤11*l.length:=by
 intro l
 induction l with
 | nil=>simp
 | cons r l ih =>
  have:=putN_length r.1
  simp[runB]at ih ⊢
  omega
structure BodyP (w:World) (b:MBd) (e:Ending) (w':World):Prop where
 out:∃v bs,e=.returned (.tuple #[v,.int .i64 (errB b:Int)])∧Hid (OwnB w' w.heap.size v bs)∧Hid (Below w.heap.size w w')∧Hid (bs=if errB b=0 then encB b else [])
set_option maxRecDepth 100000 in
theorem body_wrong (y:BdL) (w:World) (h:Hid (BdIn w y)) (hz:Hid (BdSz y)) (hq:Hid (rightB y.g=false)) :
  Calls Tryz.prog 43 #[.agg #[.slice y.loc.at_ y.loc.l.length y.loc.cap,.slice y.l.at_ y.l.l.length y.l.cap]] w (BodyP w y.g):=by
 obtain⟨W,hW,hb,hxb,hsz⟩:=box_new w #[.slice y.loc.at_ y.loc.l.length y.loc.cap,.slice y.l.at_ y.l.l.length y.l.cap] 76
 have e0:=cell_blk hxb 0
 have e1:=cell_blk hxb 1
 simp at e0 e1
 have HR:=hide (bright_any y W (hide (h.out.below hb)) hz)
 rw[hq.out]at HR
 have hE:Hid (errB y.g=1):=by show _=_;unfold errB;rw[hq.out];rfl
 have HB:=hide hb;have HW:=hide hW
 clear hb hW hxb hsz hq
 go_enter Tryz.func43,Tryz.ntmps43
 go_upto_region 1 with fail
 rw[HW.out]
 go_wp2_with fail
 refine HR.out.mono ?_;rintro e w2 ⟨rfl,h2⟩
 go_wp2_with fail
 go_ret2
 exact⟨_,[],by rw[hE.out];rfl,own_nil _ _ _ _,HB.out.trans (h2.out.mono HB.out.size),by rw[hE.out];rfl⟩
set_option maxRecDepth 100000 in
theorem body_nest (y:BdL) (w:World) (h:Hid (BdIn w y)) (hz:Hid (BdSz y)) (hq:Hid (rightB y.g=true)) (hn:Hid (nestE y.g≠0)) :
  Calls Tryz.prog 43 #[.agg #[.slice y.loc.at_ y.loc.l.length y.loc.cap,.slice y.l.at_ y.l.l.length y.l.cap]] w (BodyP w y.g):=by
 obtain⟨W,hW,hb,hxb,hsz⟩:=box_new w #[.slice y.loc.at_ y.loc.l.length y.loc.cap,.slice y.l.at_ y.l.l.length y.l.cap] 76
 have e0:=cell_blk hxb 0
 have e1:=cell_blk hxb 1
 simp at e0 e1
 have hB:=hide (h.out.below hb)
 have HR:=hide (bright_any y W hB hz)
 rw[hq.out]at HR
 have z2:=hz.out.l
 have HS:=hide (fun (V:World) (hV:Below W.heap.size W V)=>spans_any y.l.at_ y.l.l.length y.l.cap V _ _ (hide (XL.il (hB.out.below hV))) (by omega))
 have hE:Hid (errB y.g=nestE y.g):=by show _=_;unfold errB;rw[hq.out,if_pos rfl,if_pos hn.out]
 have HB:=hide hb;have HW:=hide hW;have HX:=hide hxb
 have hn0:Hid ((goN (codesB y.g) (codesB y.g) 0 initN).2.1=nestE y.g):=rfl
 generalize nestE y.g=ne at *
 clear hb hW hxb hsz hq
 go_enter Tryz.func43,Tryz.ntmps43
 go_upto_region 1 with fail
 rw[HW.out]
 go_wp2_with fail
 refine HR.out.mono ?_;rintro e w2 ⟨rfl,h2⟩
 have e2:=cell_blk ((h2.out.block w.heap.size (blk_lt HX.out)).trans HX.out) 1
 simp at e2
 clear HR e0 e1
 go_wp2_with fail
 refine(HS.out w2 h2.out).mono ?_;rintro e w3 ⟨v',ss,rfl,_,_,h3⟩
 have hne:((ne:Int) != 0)=true:=by have:=hn.out;simp;omega
 rw[hn0.out]
 go_wp2_with fail
 go_ret2
 refine⟨_,[],by rw[hE.out];rfl,own_nil _ _ _ _,?_,by rw[hE.out,if_neg hn.out];exact hide rfl⟩
 exact(HB.out.trans (h2.out.mono HB.out.size)).trans (h3.out.mono (Nat.le_trans HB.out.size h2.out.size))
end Go.Proofs.YtomppgohoplemaaGreat
