/-
  instr: Print, words, typed, constant: contracts. (Written by wip/gen-inse.py.)
  instr.Same, the document's Same: contracts at any two. (Written by wip/gen-insg.py.)
-/
import Derived.Test.YtpanlhbdphobdaaGreatDoorFaBI
import Derived.Test.YtpanlhbdphobdaaGreatDoorFaBL
import Derived.Test.YtpanlhbdphobdaaGreatDoorFaAX
import Derived.Deep.QuietTactic
import Derived.BigQuiet
namespace Go.Proofs.YtpanlhbdphobdaaGreatDoor
open Go.RowKit
set_option linter.unusedVariables false

set_option maxHeartbeats 800000 in
theorem insPrint_no (x : XI) (A : Option Addr) (cl : Nat) (w : World) (hx : Hid x.In) (hr : Hid (Reads w w.heap.size 1 A x.l.length (x.l.map U))) (hl : x.l.length ≤ 1000000) (hq : Hid (rightX x = false)) :
    Calls Tryz.prog 11 #[.agg #[.int .i64 x.code, .int .u64 (x.a : Int), .int .u64 (x.b : Int), .int .i64 x.al, .slice A x.l.length cl]] w (SaysP w (printX x)) := by
  have hp : printX x = [] := by unfold printX; rw [hq.out]; rfl
  rw [hp]
  clear hp
  obtain ⟨W, hW⟩ : ∃ W, w.alloc (.cells #[.int .i64 x.code, .int .u64 (x.a : Int), .int .u64 (x.b : Int), .int .i64 x.al, .slice A x.l.length cl] 28) = W := ⟨_, rfl⟩
  obtain ⟨g, hg⟩ : ∃ g, w.heap.size = g := ⟨_, rfl⟩
  have hb : Below g w W := by rw [← hW, ← hg]; exact (Below.refl _ _).alloc (Nat.le_refl _) _
  have hv : XV W g x A cl := by rw [← hW, ← hg]; exact xv_new w x A cl
  have hgW : g ≤ W.heap.size := Nat.le_of_lt (blk_lt hv.blk)
  have hrW : Hid (Reads W W.heap.size 1 A x.l.length (x.l.map U)) := by have := hr.out; rw [hg] at this; exact (this.below hb).more (by omega)
  have HR := hide (insRight_any x A cl W hx hrW hl)
  rw [hq.out] at HR
  obtain ⟨l0, l1, l2, l3, l4⟩ := hv.cs
  have HB := hide hb; have HW := hide hW; have HG := hide hg
  clear hb hW hg hv hr hrW hq
  go_enter Tryz.func11, Tryz.ntmps11
  go_upto_region 1 with fail
  rw [HW.out, HG.out]
  go_wp2_with fail
  refine HR.out.mono ?_; rintro e w1 ⟨rfl, h1⟩
  clear l0 l1 l2 l3 l4
  go_wp2_with fail
  go_ret
  exact ⟨rfl, by rw [HG.out]; exact HB.out.trans (h1.out.mono hgW)⟩

set_option maxRecDepth 100000 in
set_option maxHeartbeats 3200000 in
theorem insPrint_yes (x : XI) (A : Option Addr) (cl : Nat) (w : World) (hx : Hid x.In) (hr : Hid (Reads w w.heap.size 1 A x.l.length (x.l.map U))) (hl : x.l.length ≤ 1000000) (hq : Hid (rightX x = true)) (ht : Hid (LaidC w)) :
    Calls Tryz.prog 11 #[.agg #[.int .i64 x.code, .int .u64 (x.a : Int), .int .u64 (x.b : Int), .int .i64 x.al, .slice A x.l.length cl]] w (SaysP w (printX x)) := by
  obtain ⟨r, hor, hmem, hnm, hfm, hcd, hrf⟩ := right_name hq.out
  have hlen := printX_len hx.out
  have hp : printX x = Lib.join (r.name.data.toList :: toldX x) [32] := by unfold printX; rw [if_pos hq.out, hnm]
  rw [hp] at hlen ⊢
  have htl := (told_txt hx.out hrf).1
  obtain ⟨nm, hnme⟩ : ∃ nm, r.name = (⟨nm⟩ : ByteArray) := ⟨r.name.data, rfl⟩
  obtain ⟨nl, hnl⟩ : ∃ nl, r.name.data.toList = nl := ⟨_, rfl⟩
  have hname : (Value.string r.name) = .string ⟨nl.toArray⟩ := by rw [← hnl]
  obtain ⟨ts, hts⟩ : ∃ ts, toldX x = ts := ⟨_, rfl⟩
  have HTO := hide (fun W h1 h2 => told_any x A cl W hx h1 hq h2)
  unfold ToldXP at HTO
  rw [hts] at HTO hlen htl ⊢
  rw [hnl] at hlen ⊢
  obtain ⟨W, hW⟩ : ∃ W, w.alloc (.cells #[.int .i64 x.code, .int .u64 (x.a : Int), .int .u64 (x.b : Int), .int .i64 x.al, .slice A x.l.length cl] 28) = W := ⟨_, rfl⟩
  obtain ⟨g, hg⟩ : ∃ g, w.heap.size = g := ⟨_, rfl⟩
  have hb : Below g w W := by rw [← hW, ← hg]; exact (Below.refl _ _).alloc (Nat.le_refl _) _
  have hv : XV W g x A cl := by rw [← hW, ← hg]; exact xv_new w x A cl
  have hgW : g < W.heap.size := blk_lt hv.blk
  have hr0 : Hid (Reads w g 1 A x.l.length (x.l.map U)) := by rw [← hg]; exact hr
  have hrW : Hid (Reads W W.heap.size 1 A x.l.length (x.l.map U)) := (hr0.out.below hb).more (by omega)
  have HR := hide (insRight_any x A cl W hx hrW hl)
  rw [hq.out] at HR
  have HFI := hide (fun W => find_some x.code r W hx.out.c1 hx.out.c2 hor)
  unfold FindSome at HFI
  rw [hname] at HFI
  obtain ⟨l0, l1, l2, l3, l4⟩ := hv.cs
  have HB := hide hb; have HW := hide hW; have HG := hide hg; have HV := hide hv
  clear hb hW hg hv hr hrW hq hor hmem hnm hrf hp hnme hnl hname hts hfm hcd
  go_enter Tryz.func11, Tryz.ntmps11
  go_upto_region 1 with fail
  rw [HW.out, HG.out]
  go_wp2_with fail
  refine HR.out.mono ?_; rintro e w1 ⟨rfl, h1⟩
  have HV1 := hide (HV.out.below h1.out hgW)
  have HB1 : Hid (Below g w w1) := HB.out.trans (h1.out.mono (by omega))
  have hg1 : g < w1.heap.size := by have := h1.out.size; omega
  clear l0 l1 l2 l3 l4 HR HV HB h1 HW
  obtain ⟨l0, l1, l2, l3, l4⟩ := HV1.out.cs
  go_wp2_with fail
  refine (HFI.out _).mono ?_; rintro e w2 ⟨A1, c1, A2, c2, rfl, hk1, hk2, h2⟩
  clear hk1 hk2
  obtain ⟨gi, hgi⟩ : ∃ gi, w2.heap.size = gi := ⟨_, rfl⟩
  obtain ⟨W3, hW3⟩ : ∃ W3, w2.alloc (.cells #[.int .i64 r.code, .string ⟨nl.toArray⟩, .int .i64 r.form, .slice A1 r.takes.size c1, .slice A2 r.gives.size c2] 63) = W3 := ⟨_, rfl⟩
  have hb23 : Below w2.heap.size w2 W3 := by rw [← hW3]; exact (Below.refl _ _).alloc (Nat.le_refl _) _
  have hg2 : g < w2.heap.size := by have := h2.out.size; omega
  have HV3 := hide ((HV1.out.below h2.out hg1).below hb23 hg2)
  have HB3 : Hid (Below g w W3) := (HB1.out.trans (h2.out.mono (by omega))).trans (hb23.mono (by omega))
  have HI3 : Hid (W3.heap[gi]? = some (.cells #[.int .i64 r.code, .string ⟨nl.toArray⟩, .int .i64 r.form, .slice A1 r.takes.size c1, .slice A2 r.gives.size c2] 63 (0, 0))) := by show _ = _; rw [← hW3, ← hgi]; exact heap_alloc_new w2 _
  have hgi3 : gi + 1 ≤ W3.heap.size := blk_lt HI3.out
  have hggi : g < gi := by omega
  have HW3 := hide hW3; have HGI := hide hgi
  clear l0 l1 l2 l3 l4 HFI HV1 HB1 h2 hb23 hW3 hgi
  go_upto_region 4 with fail
  rw [HW3.out, HGI.out]
  have hX3 : ∀ W, Lows (gi + 1) W3 W → XV W g x A cl := fun W h => ⟨(h.block g (blk_lt HV3.out.blk) (by omega)).trans HV3.out.blk⟩
  have HX3 := hide hX3
  clear hX3
  refine wp_region_factsD grew_ext (Lows.ext (gi + 1)) (fun _ _ h => Lows.of_grew h) [5, 6, 7] 7 (factsOf [fun yy _ => yy = .pointer (some ⟨gi, 1, none⟩),
    fun yy _ => yy = S nl,
    fun yy W => ∃ gs, yy = .slice (some ⟨gs, 0, none⟩) 1 1 ∧ gi + 1 ≤ gs ∧ W.heap[gs]? = some (.cells #[S nl] 9 (0, 0)),
    fun yy _ => yy = .agg #[.int .i64 x.code, .int .u64 (x.a : Int), .int .u64 (x.b : Int), .int .i64 x.al, .slice A x.l.length cl],
    fun yy W => ∃ A2 c2, yy = .slice A2 ts.length c2 ∧ Reads W W.heap.size 1 A2 ts.length (ts.map S),
    fun yy W => ∃ A2 c2, yy = .slice A2 (nl :: ts).length c2 ∧ W.ownsRow (gi + 1) 9 1 (.slice A2 (nl :: ts).length c2) (nl :: ts).length ((nl :: ts).map S),
    fun yy _ => yy = S (Lib.join (nl :: ts) [32]),
    fun yy _ => yy = S (Lib.join (nl :: ts) [32])]) (by kernel_rfl) (by kernel_rfl) (by kernel_rfl) (by decide) rfl (by decide) (by kernel_rfl) (no_stores (by kernel_rfl)) ?_ ?_
  · refine ⟨?_, ?_, ?_, ?_, ?_, ?_, ?_, ?_, trivial⟩
    · refine ObD.plain (by decide) rfl fun ρ W hk => ?_
      have o3 : ρ (.tmp 3) = .pointer (some ⟨gi, 0, none⟩) := hk.old 3 (by decide)
      exact OpOut.fieldAddr (x := .tmp 3) rfl o3 (by go_simp) ⟨Below.refl _ _, rfl⟩
    · refine ObD.plain (by decide) rfl fun ρ W hk => ?_
      have h0 := (hk.fact 0 14 (by decide) rfl).pure
      have hc := hk.below.cell (Nat.lt_succ_self gi) HI3.out 1
      simp at hc
      exact OpOut.load (x := .tmp 14) rfl h0 (by go_simp; rfl) ⟨Below.refl _ _, rfl⟩
    · refine ObD.plain (by decide) rfl fun ρ W hk => ?_
      have h0 := (hk.fact 1 15 (by decide) rfl).pure
      exact OpOut.buildSlice (us := #[(0, .string ⟨nl.toArray⟩)]) rfl (by simp [h0, S]) (by go_simp; rfl) ⟨(Below.refl _ _).alloc (Nat.le_refl _) _, W.heap.size, rfl, by have := hk.below.size; omega, heap_alloc_new W _⟩
    · refine ObD.plain (by decide) rfl fun ρ W hk => ?_
      have o1 : ρ (.tmp 1) = .pointer (some ⟨g, 0, none⟩) := hk.old 1 (by decide)
      obtain ⟨l0, l1, l2, l3, l4⟩ := (HX3.out W hk.below).cs
      exact OpOut.load (x := .tmp 1) rfl o1 (by go_simp) ⟨Below.refl _ _, rfl⟩
    · refine ObD.plain (by decide) rfl fun ρ W hk => ?_
      have h3 := (hk.fact 3 17 (by decide) rfl).pure
      have hbW : Below g w W := HB3.out.trans ((hk.below.below hgi3).mono (by omega))
      have hszW : g ≤ W.heap.size := by have := hk.below.size; omega
      refine OpOut.fn (args := #[.agg #[.int .i64 x.code, .int .u64 (x.a : Int), .int .u64 (x.b : Int), .int .i64 x.al, .slice A x.l.length cl]]) rfl (hk.func _) (by simp [h3]) Tryz.func33 (by kernel_rfl) rfl ?_
      refine (HTO.out W (hide ((hr0.out.below hbW).more hszW)) (hide (LaidC.below ht.out (by rw [HG.out]; exact hbW)))).mono ?_
      rintro e w5 ⟨A2, c2, rfl, hr5, hb5⟩
      exact ⟨_, rfl, hb5.out, A2, c2, rfl, hr5.out⟩
    · refine ObD.first rfl rfl fun ρ W hk hk0 => ?_
      obtain ⟨w2', hw2, gs, h2', hge, hh2⟩ := hk0.fact 2 16 (by decide) rfl
      obtain ⟨w5, hw5, A2, c2, h5, hr5⟩ := hk0.fact 4 18 (by decide) rfl
      have hh := (hw2.block gs (blk_lt hh2)).trans hh2
      have ho : W.ownsRow (gi + 1) 9 1 (.slice (some ⟨gs, 0, none⟩) 1 1) 1 [S nl] := ⟨rfl, .inr ⟨gs, 1, #[S nl], rfl, hge, hh, Nat.le_refl _, by unfold maxLen; omega, rfl, rfl⟩⟩
      have hrd : Reads W W.heap.size 1 A2 ts.length (ts.map S) := (hr5.below hw5).more hw5.size
      obtain ⟨v', w', hrun, ho', hg'⟩ := run_append_any (P := Tryz.prog) (w := W) (gi + 1) (ty := 67) str_elemI (.slice (some ⟨gs, 0, none⟩) 1 1) 1 [S nl] ho W.heap.size A2 ts.length c2 (ts.map S) hrd (S_one ts) (room_of (by omega) (by omega)) (by have := hk0.below.size; omega)
      have ho3 : w'.ownsRow (gi + 1) 9 1 v' (nl :: ts).length ((nl :: ts).map S) := own_cast ho' (by simp; omega) (by simp)
      obtain ⟨A3, c3, rfl, _, _⟩ := own_form ho3
      exact OpOut.append (s := .tmp 16) (x := .tmp 18) rfl h2' h5 hrun ⟨Lows.of_grows (own_ge ho) hg', A3, c3, rfl, ho3⟩
    · refine ObD.next 0 5 19 rfl rfl rfl rfl fun ρ W hk hw => ?_
      obtain ⟨w6, hw6, A2, c2, h6, ho6⟩ := hw
      have ho := own_grewV ho6 hw6
      refine OpOut.fn (args := #[.slice A2 (nl :: ts).length c2, .string ⟨#[32]⟩]) rfl (hk.func _) (by simp [h6, hk.const]) Tryz.func32 (by kernel_rfl) rfl ?_
      refine (joinO_any ho rfl (by simp) (by simp; omega) (by omega)).mono ?_
      rintro e w7 ⟨rfl, hb7⟩
      exact ⟨_, rfl, Lows.of_grew hb7, rfl⟩
    · refine ObD.next 1 6 20 rfl rfl rfl rfl fun ρ W hk hw => ?_
      exact OpOut.assign (.tmp 20) rfl ⟨(Lows.ext _).refl _, hw.pure⟩
  · intro vs W2 hb2 hf hl7
    have h7 := hl7.pure
    have HB6 := hide (hb2.below hgi3)
    clear hf hl7 hb2
    simp only [fillL]
    rw [h7]
    simp only [S]
    generalize vs 0 = y0, vs 1 = y1, vs 2 = y2, vs 3 = y3, vs 4 = y4, vs 5 = y5, vs 6 = y6
    clear h7
    go_frame
    go_wp2_with fail
    go_ret
    exact ⟨rfl, by rw [HG.out]; exact HB3.out.trans (HB6.out.mono (by omega))⟩
theorem insPrint_any (x : XI) (A : Option Addr) (cl : Nat) (w : World) (hx : Hid x.In) (hr : Hid (Reads w w.heap.size 1 A x.l.length (x.l.map U))) (hl : x.l.length ≤ 1000000) (ht : Hid (LaidC w)) :
    Calls Tryz.prog 11 #[.agg #[.int .i64 x.code, .int .u64 (x.a : Int), .int .u64 (x.b : Int), .int .i64 x.al, .slice A x.l.length cl]] w (SaysP w (printX x)) := by
  cases hq : rightX x with
  | true => exact insPrint_yes x A cl w hx hr hl hq ht
  | false => exact insPrint_no x A cl w hx hr hl hq

theorem take_map_U {ns : List Nat} {v : Nat} : ns.map U ++ [U v] = (ns ++ [v]).map U := by simp
theorem nums_step {ts : List (List UInt8)} {k : Nat} {t : List UInt8} {ns : List Nat} {v : Nat} (h : Nums (ts.take k) ns) (hk : ts[k]? = some t) (hv : NumV t v) : Nums (ts.take (k + 1)) (ns ++ [v]) := by
  rw [List.take_add_one, hk]
  exact h.push hv
theorem numV_of {t : List UInt8} {v : Nat} {er : Value} (hv : v ≤ 18446744073709551615) (h : (er = .nilIface ∧ Lib.parseUintB 64 t = .ok v) ∨ ((∃ tp p, er = .iface tp p) ∧ ∀ u, Lib.parseUintB 64 t ≠ .ok u)) : NumV t v := by
  refine ⟨by omega, fun m hm e => ?_⟩
  have hd := parseB_dec (k := 64) (u := m) (by omega) (by simpa using hm)
  rw [← e] at hd
  rcases h with ⟨_, h⟩ | ⟨_, h⟩
  · rw [hd] at h
    injection h with h
    exact h.symm
  · exact absurd hd (h m)
set_option maxRecDepth 100000 in
set_option maxHeartbeats 800000 in
theorem insWords_any (A : Option Addr) (c : Nat) (ts : List (List UInt8)) (w : World) (hr : Hid (Reads w w.heap.size 1 A ts.length (ts.map S))) (hl : ts.length ≤ 5000) (hts : Hid (∀ t ∈ ts, t.length ≤ 1000)) (ht : Hid (LaidC w)) :
    Calls Tryz.prog 36 #[.slice A ts.length c] w fun e w' => ∃ A2 c2 ns, e = .returned (.slice A2 ts.length c2) ∧ Hid (w'.ownsRow w.heap.size 22 1 (.slice A2 ts.length c2) ts.length (ns.map U)) ∧ Hid (Nums ts ns) ∧ Hid (Below w.heap.size w w') := by
  obtain ⟨base, hbase⟩ : ∃ b, w.heap.size = b := ⟨_, rfl⟩
  have HBA := hide hbase
  have hr0 : Hid (Reads w base 1 A ts.length (ts.map S)) := by rw [← hbase]; exact hr
  clear hbase hr
  go_enter Tryz.func36, Tryz.ntmps36
  go_wp2_with fail
  go_loopw [3, 5, 6, 7, 10] (fun v1 n1 q1 q2 i1 w1 => ∃ (k : Nat) (ns : List Nat), i1 = .int .i64 k ∧ k ≤ ts.length ∧ Hid (w1.ownsRow base 22 1 v1 k (ns.map U)) ∧ Hid (Nums (ts.take k) ns) ∧ Hid (Below base w w1) ∧ base ≤ w1.heap.size) (fun _ _ _ _ i1 _ => ts.length - (intOf i1).toNat)
  case atStart => exact ⟨0, [], rfl, by omega, own_nil _ _ _ _, Nums.nil, Below.refl _ _, by rw [HBA.out]; omega⟩
  case round =>
    obtain ⟨k, ns, rfl, hk, ho, hns, hb, hsz⟩ := hrel
    by_cases hlt : k < ts.length
    · obtain ⟨ad, t, hA, htk, u0⟩ := (hr0.out.below hb.out).elem (k := k) hlt
      subst hA
      unfold S at u0
      have hF := parseU10_64 t wr (hts.out t (List.mem_of_getElem? htk.out)) (hide (LaidC.below ht.out (by rw [HBA.out]; exact hb.out)))
      have HF := hide hF
      have hki : (k : Int) < (ts.length : Int) := by omega
      have hroom : Room k 1 8 := room_of (by omega) (by omega)
      clear hF
      go_wp2_with fail
      refine HF.out.mono ?_; rintro e w2 ⟨v, er, rfl, hv, hcs, h2⟩
      have HNS := hide (nums_step hns.out htk.out (numV_of hv hcs))
      have ho2 : Hid (w2.ownsRow base 22 1 _ k (ns.map U)) := own_grewV ho.out h2
      have hb2 : Hid (Below base w w2) := hb.out.trans (h2.mono hsz)
      have hsz2 : base ≤ w2.heap.size := by have := h2.size; omega
      clear h2 HF u0 ho hb hcs htk hns
      go_wp2_with (at_builtin; refine wpList_push rfl _ _ rfl base u64_elemI _ k (ns.map U) rfl w2 (.int .u64 (v : Int)) _ rfl ho2.out rfl rfl hroom hsz2 ?_; intro v' w' ho' hg'; have HO' := hide ho'; have HG' := hide hg'; clear ho' hg')
      go_roundw
      case rel => exact ⟨k + 1, ns ++ [v], by go_num, by omega, by show World.ownsRow _ _ _ _ _ _ _; rw [List.map_append]; exact HO'.out, HNS, hb2.out.grown HG'.out.by_ hsz2 (own_ge ho2.out), Nat.le_trans hsz2 HG'.out.by_.size⟩
      case measure => simp [intOf] <;> omega
    · have hkn : k = ts.length := by omega
      subst hkn
      have hfull := ho.out
      obtain ⟨A2, c2, hv, hc2, _⟩ := own_form hfull
      subst hv
      have HF := hide hfull
      have hnf := hns.out
      rw [List.take_length] at hnf
      have HNF := hide hnf
      clear hlt hfull ho hk hns hnf
      go_wp2_with fail
      go_ret
      exact ⟨A2, c2, ns, rfl, by rw [HBA.out]; exact HF.out, HNF, by rw [HBA.out]; exact hb.out⟩

set_option maxHeartbeats 800000 in
theorem insAt_any (nb : Nat) (A : Option Addr) (n c : Nat) (ns : List Nat) (k : Nat) (w : World) (hx : Hid (w.heap[nb]? = some (.cells #[.slice A n c] 23 (0, 0)))) (hr : Hid (Reads w w.heap.size 1 A n (ns.map U))) (hn : ns.length = n) (hk : k ≤ 100000) :
    Calls Tryz.prog 37 #[.int .i64 k, .pointer (some ⟨nb, 0, none⟩)] w fun e w' => e = .returned (.int .u64 (ns.getD k 0 : Nat)) ∧ w = w' := by
  subst hn
  have c0 := cell_blk hx.out 0
  simp at c0
  by_cases hlt : k < ns.length
  · obtain ⟨ad, m, hA, hm, u0⟩ := hr.out.elem (k := k) hlt
    subst hA
    unfold U at u0
    have hv : Hid (ns.getD k 0 = m) := by show _ = _; rw [List.getD_eq_getElem?_getD, hm.out]; rfl
    have hki : (k : Int) < (ns.length : Int) := by omega
    rw [hv.out]
    clear hm hr hx
    go_enter Tryz.func37, Tryz.ntmps37
    go_wp2_with fail
    go_ret
    exact ⟨rfl, rfl⟩
  · have hv : ns.getD k 0 = 0 := by rw [List.getD_eq_getElem?_getD, List.getElem?_eq_none (by omega)]; rfl
    rw [hv]
    clear hr hx hv
    go_enter Tryz.func37, Tryz.ntmps37
    go_wp2_with fail
    go_ret
    exact ⟨rfl, rfl⟩

/-- words joined, of a slice at a place -/
theorem joinA_any (g off c n : Nat) (l : List (List UInt8)) (w : World) (hn : l.length = n) (hl : n ≤ 5000) (hcell : Hid (∀ j x, l[j]? = some x → w.cell? ⟨g, off + j, none⟩ = some (S x))) (hg : g < w.heap.size) (hc : n ≤ c) (hj : (Lib.join l [32]).length ≤ 100000) :
    Calls Tryz.prog 32 #[.slice (some ⟨g, off, none⟩) n c, .string ⟨#[32]⟩] w (SaysP w (Lib.join l [32])) := by
  have hm : (l.map fun x => (⟨x.toArray⟩ : ByteArray)).map (·.data.toList) = l := by rw [List.map_map]; exact List.map_id l
  have h := Tryz.strings_Join g off c (l.map fun x => (⟨x.toArray⟩ : ByteArray)) ⟨#[32]⟩ w (by
    intro j x hx
    rw [List.getElem?_map] at hx
    cases hj : l[j]? with
    | none => rw [hj] at hx; cases hx
    | some y =>
      rw [hj] at hx
      have : (⟨y.toArray⟩ : ByteArray) = x := by simpa using hx
      rw [← this]
      exact hcell.out j y hj) hg (by rw [List.length_map]; omega) (by rw [List.length_map]; omega) (by rw [hm]; show (Lib.join l [32]).length ≤ _; omega)
  rw [hm, List.length_map, hn] at h
  exact h
set_option maxHeartbeats 800000 in
theorem insConst_any (code : Int) (g off c : Nat) (l : List (List UInt8)) (w : World) (hl : l.length ≤ 5000) (hcell : Hid (∀ j x, l[j]? = some x → w.cell? ⟨g, off + j, none⟩ = some (S x))) (hg : g < w.heap.size) (hc : l.length ≤ c) (hj : (Lib.join l [32]).length ≤ 900) (ht : Hid (LaidC w)) :
    Calls Tryz.prog 39 #[.int .i64 code, .slice (some ⟨g, off, none⟩) l.length c] w fun e w' => e = .returned (.int .u64 ((parseF (if code = 66 then 64 else 32) (Lib.join l [32])).getD 0 : Nat)) ∧ Hid (Below w.heap.size w w') := by
  have HJ := hide (joinA_any g off c l.length l w rfl hl hcell hg hc (by omega))
  obtain ⟨jl, hjl⟩ : ∃ jl, Lib.join l [32] = jl := ⟨_, rfl⟩
  rw [hjl] at HJ hj ⊢
  clear hjl hcell hg hc
  by_cases h66 : code = 66
  · subst h66
    have HP : Hid (∀ W, Below w.heap.size w W → Calls Tryz.prog 76 #[.int .i64 64, .string ⟨jl.toArray⟩] W fun e w' => ∃ er : Int, e = .returned (.tuple #[.int .u64 ((parseF 64 jl).getD 0 : Nat), .int .i64 er]) ∧ Below W.heap.size W w') := fun W h => (parse_any 64 (.inr rfl) jl W hj (hide (ht.out.below h))).mono (by rintro e w' ⟨h1, h2⟩; exact ⟨_, h1, h2⟩)
    go_enter Tryz.func39, Tryz.ntmps39
    go_wp2_with fail
    refine HJ.out.mono ?_; rintro e w1 ⟨rfl, h1⟩
    have HP1 := hide (HP.out w1 h1)
    have H1 := hide h1
    clear HP HJ h1
    go_wp2_with fail
    refine HP1.out.mono ?_; rintro e w2 ⟨er, rfl, h2⟩
    have H2 := hide (H1.out.trans (h2.mono H1.out.size))
    clear HP1 h2 H1
    go_wp2_with fail
    go_ret
    exact ⟨rfl, H2⟩
  · have f66 : (code == 66) = false := by simpa using h66
    have HP : Hid (∀ W, Below w.heap.size w W → Calls Tryz.prog 76 #[.int .i64 32, .string ⟨jl.toArray⟩] W fun e w' => ∃ er : Int, e = .returned (.tuple #[.int .u64 ((parseF 32 jl).getD 0 : Nat), .int .i64 er]) ∧ Below W.heap.size W w') := fun W h => (parse_any 32 (.inl rfl) jl W hj (hide (ht.out.below h))).mono (by rintro e w' ⟨h1, h2⟩; exact ⟨_, h1, h2⟩)
    rw [if_neg h66]
    clear h66
    go_enter Tryz.func39, Tryz.ntmps39
    go_wp2_with fail
    refine HJ.out.mono ?_; rintro e w1 ⟨rfl, h1⟩
    have HP1 := hide (HP.out w1 h1)
    have H1 := hide h1
    clear HP HJ h1
    go_wp2_with fail
    refine HP1.out.mono ?_; rintro e w2 ⟨er, rfl, h2⟩
    have H2 := hide (H1.out.trans (h2.mono H1.out.size))
    clear HP1 h2 H1
    go_wp2_with fail
    go_ret
    exact ⟨rfl, H2⟩
end Go.Proofs.YtpanlhbdphobdaaGreatDoor

namespace Go.Proofs.YtpanlhbdphobdaaGreatDoor
open Go.RowKit
set_option linter.unusedVariables false

def sameX (x y : XI) : Bool := (x.code == y.code) && ((x.a == y.a) && ((x.b == y.b) && ((x.al == y.al) && (x.l == y.l))))
theorem sameX_iff (x y : XI) : sameX x y = true ↔ x = y := by
  unfold sameX
  obtain ⟨a1, a2, a3, a4, a5⟩ := x
  obtain ⟨b1, b2, b3, b4, b5⟩ := y
  simp
theorem sameX_refl (x : XI) : sameX x x = true := (sameX_iff x x).2 rfl
theorem below_drewN4 {B : Nat} {a w : World} (h : Below B a w) (n : Nat) : Below B a (w.drewN n) := ⟨h.os, h.tape, h.output, h.size, h.block⟩
theorem take_eq_step {xs ys : List Nat} {k n : Nat} (h : xs.take k = ys.take k) (hx : xs[k]? = some n) (hy : ys[k]? = some n) : xs.take (k + 1) = ys.take (k + 1) := by
  rw [List.take_add_one, List.take_add_one, h, hx, hy]
theorem ne_at {xs ys : List Nat} {k m n : Nat} (hx : xs[k]? = some m) (hy : ys[k]? = some n) (h : m ≠ n) : (xs == ys) = false := by
  simp only [beq_eq_false_iff_ne, ne_eq]
  rintro rfl
  rw [hx] at hy
  injection hy with hy
  exact h hy
set_option maxHeartbeats 1600000 in
theorem equalU2_any (A1 A2 : Option Addr) (c1 c2 : Nat) (xs ys : List Nat) (w : World) (r1 : Hid (Reads w w.heap.size 1 A1 xs.length (xs.map U))) (r2 : Hid (Reads w w.heap.size 1 A2 ys.length (ys.map U))) (h1 : xs.length ≤ 1000000) (h2 : ys.length ≤ 1000000) :
    Calls Tryz.prog 42 #[.slice A1 xs.length c1, .slice A2 ys.length c2] w fun e w' => e = .returned (.bool (xs == ys)) ∧ Hid (Below w.heap.size w w') := by
  by_cases hl : xs.length = ys.length
  · obtain ⟨n, hn⟩ : ∃ n, ys.length = n := ⟨_, rfl⟩
    have hnx : xs.length = n := hl.trans hn
    have r1' : Hid (Reads w w.heap.size 1 A1 xs.length (xs.map U)) := r1
    have r2' : Hid (Reads w w.heap.size 1 A2 ys.length (ys.map U)) := r2
    have HN := hide hn; have HX := hide hnx
    rw [hnx, hn]
    clear hl hn hnx r1 r2 h1
    have h2 : n ≤ 1000000 := by have := HN.out; omega
    go_enter Tryz.func42, Tryz.ntmps42
    go_wp2_with fail
    go_loopw [4, 5, 13] (fun r _ i w1 => ∃ k : Nat, r = .bool false ∧ i = .int .i64 k ∧ k ≤ n ∧ Hid (Below w.heap.size w w1) ∧ Hid (xs.take k = ys.take k)) (fun _ _ i _ => n - (intOf i).toNat)
    case atStart => exact ⟨0, rfl, rfl, by omega, Below.refl _ _, by show _ = _; simp⟩
    case round =>
      obtain ⟨k, rfl, rfl, hk, hbw, hst⟩ := hrel
      by_cases hlt : k < n
      · obtain ⟨a1, x, hA1, hx, hcx⟩ := (r1'.out.below hbw.out).elem (k := k) (by rw [HX.out]; exact hlt)
        obtain ⟨a2, y, hA2, hy, hcy⟩ := (r2'.out.below hbw.out).elem (k := k) (by rw [HN.out]; exact hlt)
        subst hA1; subst hA2
        unfold U at hcx hcy
        have hki : (k : Int) < (n : Int) := by omega
        have hk0 : (0 : Int) ≤ (k : Int) := by omega
        by_cases hxy : x = y
        · subst hxy
          have HST := hide (take_eq_step hst.out hx.out hy.out)
          clear hst hx hy
          go_wp2_with fail
          go_quiet (fail)
          go_wp2_with fail
          go_roundw
          case rel => exact ⟨k + 1, rfl, by go_num, by omega, below_drewN4 hbw.out _, HST⟩
          case measure => simp [intOf] <;> omega
        · have HNE := hide (ne_at hx.out hy.out hxy)
          have hne : ((x : Int) != (y : Int)) = true := by simp; omega
          have hne2 : ((x : Int) == (y : Int)) = false := by simp; omega
          clear hst hx hy hxy
          go_wp2_with fail
          go_quiet (fail)
          go_wp2_with fail
          go_ret
          exact ⟨by rw [HNE.out]; rfl, below_drewN4 hbw.out _⟩
      · have hkk : k = n := by omega
        subst hkk
        have heq : Hid ((xs == ys) = true) := by
          have := hst.out
          rw [List.take_of_length_le (by rw [HX.out]; omega), List.take_of_length_le (by rw [HN.out]; omega)] at this
          show _ = _
          simpa using this
        clear hlt hst
        go_wp2_with fail
        go_ret
        exact ⟨by rw [heq.out]; rfl, hbw⟩
  · have hne : ((xs.length : Int) != (ys.length : Int)) = true := by simp; omega
    have hne2 : ((xs.length : Int) == (ys.length : Int)) = false := by simp; omega
    have hq : Hid ((xs == ys) = false) := by
      show _ = _
      simp only [beq_eq_false_iff_ne, ne_eq]
      rintro rfl
      exact hl rfl
    clear hl r1 r2
    go_enter Tryz.func42, Tryz.ntmps42
    go_wp2_with fail
    go_ret
    exact ⟨by rw [hq.out]; rfl, Below.refl _ _⟩

set_option maxRecDepth 100000 in
set_option maxHeartbeats 3200000 in
theorem isame2_any (x y : XI) (A1 A2 : Option Addr) (c1 c2 : Nat) (w : World) (r1 : Hid (Reads w w.heap.size 1 A1 x.l.length (x.l.map U))) (r2 : Hid (Reads w w.heap.size 1 A2 y.l.length (y.l.map U))) (h1 : x.l.length ≤ 1000000) (h2 : y.l.length ≤ 1000000) :
    Calls Tryz.prog 16 #[.agg #[.int .i64 x.code, .int .u64 (x.a : Int), .int .u64 (x.b : Int), .int .i64 x.al, .slice A1 x.l.length c1], .agg #[.int .i64 y.code, .int .u64 (y.a : Int), .int .u64 (y.b : Int), .int .i64 y.al, .slice A2 y.l.length c2]] w fun e w' => e = .returned (.bool (sameX x y)) ∧ Hid (Below w.heap.size w w') := by
  obtain ⟨W, hW⟩ : ∃ W, (w.alloc (.cells #[.int .i64 x.code, .int .u64 (x.a : Int), .int .u64 (x.b : Int), .int .i64 x.al, .slice A1 x.l.length c1] 28)).alloc (.cells #[.int .i64 y.code, .int .u64 (y.a : Int), .int .u64 (y.b : Int), .int .i64 y.al, .slice A2 y.l.length c2] 28) = W := ⟨_, rfl⟩
  obtain ⟨g, hg⟩ : ∃ g, w.heap.size = g := ⟨_, rfl⟩
  have hbW : Below g w W := by rw [← hW, ← hg]; exact ((Below.refl _ _).alloc (Nat.le_refl _) _).alloc (by simp) _
  have hsz : W.heap.size = g + 2 := by rw [← hW, ← hg]; simp
  have hx : XV W g x A1 c1 := ⟨by rw [← hW, ← hg, Below.heap_alloc _ _ _ (by simp)]; exact heap_alloc_new w _⟩
  have hy : XV W (g + 1) y A2 c2 := ⟨by
    rw [← hW, ← hg]
    have := heap_alloc_new (w.alloc (.cells #[.int .i64 x.code, .int .u64 (x.a : Int), .int .u64 (x.b : Int), .int .i64 x.al, .slice A1 x.l.length c1] 28)) (.cells #[.int .i64 y.code, .int .u64 (y.a : Int), .int .u64 (y.b : Int), .int .i64 y.al, .slice A2 y.l.length c2] 28)
    simpa using this⟩
  rw [hg] at r1 r2
  have HE := hide (equalU2_any A1 A2 c1 c2 x.l y.l W (hide ((r1.out.below hbW).more (by omega))) (hide ((r2.out.below hbW).more (by omega))) h1 h2)
  obtain ⟨l0, l1, l2, l3, l4⟩ := hx.cs
  obtain ⟨m0, m1, m2, m3, m4⟩ := hy.cs
  have HW := hide hW; have HB := hide hbW; have HG := hide hg; have HSZ := hide hsz
  have hS : Hid (sameX x y = ((x.code == y.code) && (((x.a : Int) == (y.a : Int)) && (((x.b : Int) == (y.b : Int)) && ((x.al == y.al) && (x.l == y.l)))))) := by
    show _ = _
    have e : ∀ m n : Nat, ((m : Int) == (n : Int)) = (m == n) := by intro m n; rw [Bool.eq_iff_iff]; simp; omega
    rw [e, e]
    rfl
  clear hW hbW hg hx hy r1 r2 hsz
  cases q1 : (x.code == y.code) with
  | false =>
    have HS : Hid (sameX x y = false) := by show _ = _; rw [hS.out, q1]; rfl
    clear hS
    go_enter Tryz.func16, Tryz.ntmps16
    go_upto_region 1 with fail
    rw [HW.out, HG.out]
    go_wp2_with fail
    go_ret
    exact ⟨by rw [HS.out]; rfl, by rw [HG.out]; exact HB⟩
  | true =>
    cases q2 : ((x.a : Int) == (y.a : Int)) with
    | false =>
      have HS : Hid (sameX x y = false) := by show _ = _; rw [hS.out, q1, q2]; rfl
      clear hS
      go_enter Tryz.func16, Tryz.ntmps16
      go_upto_region 1 with fail
      rw [HW.out, HG.out]
      go_wp2_with fail
      go_ret
      exact ⟨by rw [HS.out]; rfl, by rw [HG.out]; exact HB⟩
    | true =>
      cases q3 : ((x.b : Int) == (y.b : Int)) with
      | false =>
        have HS : Hid (sameX x y = false) := by show _ = _; rw [hS.out, q1, q2, q3]; rfl
        clear hS
        go_enter Tryz.func16, Tryz.ntmps16
        go_upto_region 1 with fail
        rw [HW.out, HG.out]
        go_wp2_with fail
        go_ret
        exact ⟨by rw [HS.out]; rfl, by rw [HG.out]; exact HB⟩
      | true =>
        cases q4 : (x.al == y.al) with
        | false =>
          have HS : Hid (sameX x y = false) := by show _ = _; rw [hS.out, q1, q2, q3, q4]; rfl
          clear hS
          go_enter Tryz.func16, Tryz.ntmps16
          go_upto_region 1 with fail
          rw [HW.out, HG.out]
          go_wp2_with fail
          go_ret
          exact ⟨by rw [HS.out]; rfl, by rw [HG.out]; exact HB⟩
        | true =>
          have HS : Hid (sameX x y = (x.l == y.l)) := by show _ = _; rw [hS.out, q1, q2, q3, q4]; rfl
          obtain ⟨q, hq⟩ : ∃ q, (x.l == y.l) = q := ⟨_, rfl⟩
          rw [hq] at HS HE
          clear hS hq
          go_enter Tryz.func16, Tryz.ntmps16
          go_upto_region 1 with fail
          rw [HW.out, HG.out]
          go_wp2_with fail
          refine HE.out.mono ?_; rintro e w2 ⟨rfl, hb2⟩
          clear l0 l1 l2 l3 l4 m0 m1 m2 m3 m4
          go_wp2_with fail
          go_ret
          exact ⟨by rw [HS.out]; rfl, by rw [HG.out]; exact HB.out.trans (hb2.out.mono (by have := HSZ.out; omega))⟩
end Go.Proofs.YtpanlhbdphobdaaGreatDoor
