/-
  code's laws: a body of the document's as the program's: List, To: contracts.
-/
import Derived.Test.YtdhmkapknaphpaaSameB
import Derived.Test.YtdhmkapknaphpaaNestF
import Derived.Test.YtdhmkapknaphpaaCReadE
import Derived.Test.YtdhmkapknaphpaaRegionT
namespace Go.Proofs.Ytdhmkapknaphpaa
open Go.RowKit
set_option linter.unusedVariables false

set_option maxHeartbeats 800000 in
theorem ltypes_any (A : Option Addr) (cap : Nat) (ts : List UInt8) (w : World) (hr : Hid (Reads w w.heap.size 1 A ts.length (ts.map B))) (hl : ts.length ≤ 1000) :
    Calls Try.prog 24 #[.slice A ts.length cap] w fun e w' => ∃ A2 c2, e = .returned (.slice A2 ts.length c2) ∧ Hid (w'.ownsRow w.heap.size 78 1 (.slice A2 ts.length c2) ts.length (ts.map B)) ∧ Below w.heap.size w w' := by
  obtain ⟨base, hbase⟩ : ∃ b, w.heap.size = b := ⟨_, rfl⟩
  have HBA := hide hbase
  rw [hbase] at hr
  clear hbase
  go_enter Try.func24, Try.ntmps24
  go_wp2_with fail
  go_loopw [3, 4] (fun v i w1 => ∃ k : Nat, i = .int .i64 k ∧ k ≤ ts.length ∧ Hid (w1.ownsRow base 78 1 v k ((ts.take k).map B)) ∧ Hid (Below base w w1) ∧ base ≤ w1.heap.size) (fun _ i _ => ts.length - (intOf i).toNat)
  case atStart => exact ⟨0, rfl, by omega, own_nil _ _ _ _, Below.refl _ _, by rw [HBA.out]; omega⟩
  case round =>
    obtain ⟨k, rfl, hk, ho, hb, hbs⟩ := hrel
    by_cases hlt : k < ts.length
    · have hrk : Reads wr base 1 A ts.length (ts.map B) := hr.out.below hb.out
      obtain ⟨ad, c, rfl, hc, hcell, hc0, hc1⟩ := hrk.byte (k := k) hlt
      have hst : ts.take (k + 1) = ts.take k ++ [c] := by rw [List.take_add_one, hc.out]; rfl
      have HST := hide hst
      have hroom : Room k 1 1 := room_of (by omega) (by omega)
      clear hrk hst
      go_wp2_with (at_builtin; refine wpList_push rfl _ _ rfl base type_elem _ k ((ts.take k).map B) rfl wr _ _ rfl ho.out rfl rfl hroom hbs ?_; intro v' w' ho' hg')
      go_roundw
      case rel =>
        refine ⟨k + 1, by go_num, by omega, ?_, hb.out.grown hg'.by_ hbs (own_ge ho.out), Nat.le_trans hbs hg'.by_.size⟩
        show World.ownsRow _ _ _ _ _ _ _
        rw [HST.out, List.map_append, List.map_singleton]
        exact ho'
      case measure => simp [intOf] <;> omega
    · have hkn : k = ts.length := by omega
      subst hkn
      have hfull := ho.out
      rw [List.take_length] at hfull
      obtain ⟨A2, c2, hv, hc2, _⟩ := own_form hfull
      subst hv
      have HF := hide hfull
      clear hlt hfull ho
      go_wp2_with fail
      go_ret
      exact ⟨A2, c2, rfl, by rw [HBA.out]; exact HF.out, by rw [HBA.out]; exact hb.out⟩

theorem toD_any (d : DI) (A : Option Addr) (c : Nat) (w : World) (hr : Hid (Reads w w.heap.size 1 A d.l.length (d.l.map U))) (hl : d.l.length ≤ 1000) :
    Calls Try.prog 43 #[.agg #[.int .i64 (d.code : Int), .int .u64 (d.a : Int), .int .u64 (d.b : Int), .int .i64 (d.al : Int), .slice A d.l.length c]] w fun e w' =>
      ∃ A2 c2, e = .returned (.agg #[.int .i64 (d.code : Int), .int .u64 (d.a : Int), .int .u64 (d.b : Int), .int .i64 (d.al : Int), .slice A2 d.l.length c2]) ∧ Hid (w'.ownsRow w.heap.size 24 1 (.slice A2 d.l.length c2) d.l.length (d.l.map U)) ∧ Hid (Below w.heap.size w w') := by
  have hm : (d.l.map fun n : Nat => (n : Int)).flatMap u64D = d.l.map U := by
    rw [List.flatMap_map]
    show d.l.flatMap (fun n => [U n]) = _
    rw [← List.map_eq_flatMap]
  have h := insTo_any ((d.code : Int), (d.a : Int), (d.b : Int), (d.al : Int), ⟨A, c, d.l.map fun n : Nat => (n : Int)⟩, ()) w (by show Reads _ _ _ _ _ _; simp only; rw [hm, List.length_map]; exact hr.out) (by simp only; rw [List.length_map]; omega)
  simp only [List.length_map] at h
  refine h.mono ?_
  rintro e w' ⟨A2, c2, he, ho, hb⟩
  simp only [List.length_map] at he ho
  rw [hm] at ho
  exact ⟨A2, c2, he, ho, hb⟩

set_option maxHeartbeats 1600000 in
theorem rlist_any (Al : Option Addr) (n cl : Nat) (ys : List (Value × DI)) (w : World) (hi : Hid (IS w Al ys)) (hn : ys.length = n) (hn2 : n ≤ 1000) (hlab : Hid (∀ y ∈ ys, y.2.l.length ≤ 100)) :
    Calls Try.prog 25 #[.slice Al n cl] w fun e w' => ∃ A2 c2 zs, e = .returned (.slice A2 n c2) ∧ Hid (IR w' w.heap.size 27 (.slice none 0 0) (.slice none 0 0) (.slice A2 n c2) zs) ∧ Hid (dis zs = dis ys) ∧ Hid (zs.length = n) ∧ Hid (Below w.heap.size w w') := by
  obtain ⟨base, hbase⟩ : ∃ b, w.heap.size = b := ⟨_, rfl⟩
  have HB := hide hbase; have HN := hide hn
  clear hbase hn
  go_enter Try.func25, Try.ntmps25
  go_wp2_with fail
  go_loopw [3, 4] (fun v i w1 => ∃ (k : Nat) (zs : List (Value × DI)), i = .int .i64 k ∧ k ≤ n ∧ zs.length = k ∧ Hid (IR w1 base 27 (.slice none 0 0) (.slice none 0 0) v zs) ∧ Hid (dis zs = (dis ys).take k) ∧ Hid (Below base w w1) ∧ base ≤ w1.heap.size) (fun _ i _ => n - (intOf i).toNat)
  case atStart => exact ⟨0, [], rfl, by omega, rfl, IR.nil _ _ _ _ _, rfl, Below.refl _ _, by rw [HB.out]; omega⟩
  case round =>
    obtain ⟨k, zs, rfl, hk, hzl, hir, hx, hbl, hsz⟩ := hrel
    subst hzl
    obtain ⟨Av, cv, rfl, hcv1, hcv2⟩ := own_form hir.out.row
    by_cases hlt : zs.length < n
    · have hbl0 : Hid (Below w.heap.size w wr) := by rw [HB.out]; exact hbl.out
      obtain ⟨ad, A1, c1, d, rfl, hd, hr, u0, u1, u2, u3, u4⟩ := (hi.out.below hbl0.out).at_ (i := zs.length) (by rw [HN.out]; exact hlt)
      have hdl : d.l.length ≤ 100 := by
        have hm := List.mem_of_getElem? hd.out
        simp only [dis, List.mem_map] at hm
        obtain ⟨y, hy, rfl⟩ := hm
        exact hlab.out y hy
      have HTO := hide (toD_any d A1 c1 wr hr (by omega))
      have hroom : Room zs.length 1 56 := room_of (by omega) (by omega)
      go_wp2_with fail
      refine HTO.out.mono ?_; rintro e w2 ⟨A2, c2, rfl, ho2, hb2⟩
      have hir2 := hide (hir.out.keep (S := []) (Only.of_below hb2.out) (by simp))
      have hsz2 : base ≤ w2.heap.size := Nat.le_trans hsz hb2.out.size
      go_wp2_with (at_builtin; refine wpList_push_n rfl _ _ rfl base ins_elem (.slice Av zs.length cv) zs.length (insV zs) rfl w2 [.int .i64 (d.code : Int), .int .u64 (d.a : Int), .int .u64 (d.b : Int), .int .i64 (d.al : Int), .slice A2 d.l.length c2] 27 rfl hir2.out.row rfl rfl (by simp [Value.oneCell']) hroom hsz2 ?_; intro v' w3 ho3 hg3; have ho3' := hide ho3; have hg3' := hide hg3; clear ho3 hg3)
      have hb3 := hg3'.out.below hsz2 (own_ge hir2.out.row)
      have hlt2 := own_lt hir.out.row
      have hir3 := hide (hir2.out.push (.slice A2 d.l.length c2, d) (own_base ho2.out (fun q hq => by have := own_ge ho2.out q hq; omega)) (fun q hq => by have hge := own_ge ho2.out q hq; exact ⟨(fun x => by cases x), (fun x => by cases x), (fun x => by have := hlt2 _ x; omega)⟩) (fun q x => by cases x) (fun q x => by cases x) hg3'.out ho3'.out)
      go_roundw
      case rel =>
        refine ⟨zs.length + 1, zs ++ [((.slice A2 d.l.length c2 : Value), d)], by go_num, by omega, by simp, hir3, ?_, (hbl.out.trans (hb2.out.mono hsz)).trans hb3, Nat.le_trans hsz2 hb3.size⟩
        show _ = _
        rw [dis_snoc, hx.out, List.take_add_one, hd.out]
        rfl
      case measure => simp [intOf] <;> omega
    · have hkn : zs.length = n := by omega
      have hx' := hx.out
      rw [List.take_of_length_le (by rw [dis_len, HN.out]; omega)] at hx'
      have HX := hide hx'
      have hend : Hid (IR wr w.heap.size 27 (.slice none 0 0) (.slice none 0 0) (.slice Av zs.length cv) zs) := by rw [HB.out]; exact hir.out
      subst hkn
      clear hlt hx' hx hir
      go_wp2_with fail
      go_ret
      exact ⟨Av, cv, zs, rfl, hend, HX, rfl, by rw [HB.out]; exact hbl.out⟩

/-- what To leaves -/
structure BodyC (w : World) (m n : Nat) (ls : List UInt8) (ds : List DI) (en : Ending) (w' : World) : Prop where
  out : ∃ (A2 A3 : Option Addr) (c2 c3 : Nat) (zs : List (Value × DI)), en = .returned (.agg #[.slice A2 m c2, .slice A3 n c3]) ∧ Hid (Reads w' w'.heap.size 1 A2 ls.length (ls.map B)) ∧ Hid (IS w' A3 zs) ∧ Hid (dis zs = ds) ∧ Hid (zs.length = n) ∧ Hid (Below w.heap.size w w')

set_option maxRecDepth 100000 in
set_option maxHeartbeats 800000 in
theorem bodyTo_any (L1 A1 : Option Addr) (e1 c1 m n : Nat) (ls : List UInt8) (ys : List (Value × DI)) (w : World) (hr : Hid (Reads w w.heap.size 1 L1 ls.length (ls.map B))) (hm : ls.length = m) (h50 : m ≤ 50) (hi : Hid (IS w A1 ys)) (hn : ys.length = n) (hn2 : n ≤ 1000) (hlab : Hid (∀ y ∈ ys, y.2.l.length ≤ 100)) :
    Calls Try.prog 11 #[.agg #[.slice L1 m e1, .slice A1 n c1]] w (BodyC w m n ls (dis ys)) := by
  subst hm
  obtain ⟨W, hW⟩ : ∃ W, (w.alloc (.cells #[.slice L1 ls.length e1, .slice A1 n c1] 44)).alloc (.cells #[.slice none 0 0, .slice none 0 0] 34) = W := ⟨_, rfl⟩
  have hb : Below w.heap.size w W := by rw [← hW]; exact ((Below.refl _ _).alloc (Nat.le_refl _) _).alloc (by simp) _
  obtain ⟨g, hg⟩ : ∃ g, w.heap.size = g := ⟨_, rfl⟩
  have hx1 : Hid (W.heap[g]? = some (.cells #[.slice L1 ls.length e1, .slice A1 n c1] 44 (0, 0))) := by show _ = _; rw [← hW, ← hg, Below.heap_alloc _ _ _ (by simp)]; exact heap_alloc_new w _
  have hx2 : Hid (W.heap[g + 1]? = some (.cells #[.slice none 0 0, .slice none 0 0] 34 (0, 0))) := by
    show _ = _
    rw [← hW, ← hg]
    have := heap_alloc_new (w.alloc (.cells #[.slice L1 ls.length e1, .slice A1 n c1] 44)) (.cells #[.slice none 0 0, .slice none 0 0] 34)
    simpa using this
  have hszW : W.heap.size = g + 2 := by rw [← hW, ← hg]; simp
  have hrW := hide ((hr.out.below hb).more hb.size)
  have hiW := hide (hi.out.below hb)
  have HC : CellsOf W (g + 2) g _ := CellsOf.of hx1.out (by omega)
  have HW := hide hW; have HB := hide hb; have HG := hide hg; have HN := hide hn
  clear hW hb hg hn
  go_enter Try.func11, Try.ntmps11
  go_upto_region 1 with fail
  rw [HW.out, HG.out]
  refine wp_region_last (l := [_, _, _, _, _, _, _]) (o := _) grew_ext (factsOf [fun v _ => v = .pointer (some ⟨g, 0, none⟩),
    fun v _ => v = .slice L1 ls.length e1,
    fun v W => ∃ A2 c2, v = .slice A2 ls.length c2 ∧ Hid (W.ownsRow (g + 2) 78 1 (.slice A2 ls.length c2) ls.length (ls.map B)),
    fun v _ => v = .pointer (some ⟨g, 1, none⟩),
    fun v _ => v = .slice A1 n c1,
    fun v W => ∃ A3 c3 zs, v = .slice A3 n c3 ∧ Hid (IR W (g + 2) 27 (.slice none 0 0) (.slice none 0 0) (.slice A3 n c3) zs) ∧ Hid (dis zs = dis ys) ∧ Hid (zs.length = n),
    fun v W => ∃ A2 c2 A3 c3 zs, v = .agg #[.slice A2 ls.length c2, .slice A3 n c3] ∧ Hid (W.ownsRow (g + 2) 78 1 (.slice A2 ls.length c2) ls.length (ls.map B)) ∧ Hid (IR W (g + 2) 27 (.slice none 0 0) (.slice none 0 0) (.slice A3 n c3) zs) ∧ Hid (dis zs = dis ys) ∧ Hid (zs.length = n)]) (by kernel_rfl) (by kernel_rfl) (by kernel_rfl) ?_ ?_
  · refine ⟨?_, ?_, ?_, ?_, ?_, ?_, ?_, trivial⟩
    · refine ⟨fun ρ W' hk => ?_⟩
      have o1 : ρ (.tmp 1) = .pointer (some ⟨g, 0, none⟩) := hk.old 1 (by decide)
      exact OpOut.fieldAddr (x := .tmp 1) rfl o1 (by go_simp) ⟨Below.refl _ _, rfl⟩
    · refine ⟨fun ρ W' hk => ?_⟩
      have h0 := (hk.fact 0 3 (by decide) rfl).pure
      have hc := HC.out W' hk.below 0 (.slice L1 ls.length e1) rfl
      exact OpOut.load (x := .tmp 3) rfl h0 (by go_simp) ⟨Below.refl _ _, rfl⟩
    · refine ⟨fun ρ W' hk => ?_⟩
      have h1 := (hk.fact 1 4 (by decide) rfl).pure
      refine OpOut.fn (args := #[.slice L1 ls.length e1]) rfl (hk.func _) (by simp [h1]) Try.func24 (by kernel_rfl) rfl ?_
      refine (ltypes_any L1 e1 ls W' (hide ((hrW.out.below hk.below).more hk.below.size)) (by omega)).mono ?_; rintro e w5 ⟨B5, d5, rfl, s5, hb5⟩
      exact ⟨_, rfl, hb5, ⟨B5, d5, rfl, own_base s5.out (fun q hq => by have := own_ge s5.out q hq; have := HC.size W' hk.below; omega)⟩⟩
    · refine ⟨fun ρ W' hk => ?_⟩
      have o1 : ρ (.tmp 1) = .pointer (some ⟨g, 0, none⟩) := hk.old 1 (by decide)
      exact OpOut.fieldAddr (x := .tmp 1) rfl o1 (by go_simp) ⟨Below.refl _ _, rfl⟩
    · refine ⟨fun ρ W' hk => ?_⟩
      have h3 := (hk.fact 3 6 (by decide) rfl).pure
      have hc := HC.out W' hk.below 1 (.slice A1 n c1) rfl
      exact OpOut.load (x := .tmp 6) rfl h3 (by go_simp) ⟨Below.refl _ _, rfl⟩
    · refine ⟨fun ρ W' hk => ?_⟩
      have h4 := (hk.fact 4 7 (by decide) rfl).pure
      refine OpOut.fn (args := #[.slice A1 n c1]) rfl (hk.func _) (by simp [h4]) Try.func25 (by kernel_rfl) rfl ?_
      refine (rlist_any A1 n c1 ys W' (hide (hiW.out.below hk.below)) HN.out hn2 hlab).mono ?_; rintro e w5 ⟨A5, d5, zs, rfl, s5, s6, s7, hb5⟩
      exact ⟨_, rfl, hb5.out, ⟨A5, d5, zs, rfl, s5.out.base (HC.size W' hk.below), s6, s7⟩⟩
    · refine ⟨fun ρ W' hk => ?_⟩
      obtain ⟨w2, hw2, A2, c2, h2, s2⟩ := hk.fact 2 5 (by decide) rfl
      obtain ⟨w5, hw5, A3, c3, zs, h5, s5, s6, s7⟩ := hk.fact 5 8 (by decide) rfl
      exact OpOut.build (us := #[(0, .slice A2 ls.length c2), (1, .slice A3 n c3)]) rfl (by simp [h2, h5]) (by go_simp) ⟨Below.refl _ _, A2, c2, A3, c3, zs, rfl, own_only3 (S := []) s2.out (Only.of_below hw2) (by simp), s5.out.keep (S := []) (Only.of_below hw5) (by simp), s6, s7⟩
  · intro vs W2 hb2 hf
    obtain ⟨w6, hw6, A2, c2, A3, c3, zs, h6, s2, s5, s6, s7⟩ := hf 6 (by decide)
    have t2 := hide (own_only3 (S := []) s2.out (Only.of_below hw6) (by simp))
    have t5 := hide (s5.out.keep (S := []) (Only.of_below hw6) (by simp))
    clear hf
    simp only [fillL]
    rw [h6]
    generalize vs 0 = v0, vs 1 = v1, vs 2 = v2, vs 3 = v3, vs 4 = v4, vs 5 = v5
    have hblk := hide ((hb2.block (g + 1) (by omega)).trans hx2.out)
    have e0 : W2.cell? ⟨g + 1, 0, none⟩ = some (.slice none 0 0) := cell_blk hblk.out 0
    have e1' : W2.cell? ⟨g + 1, 1, none⟩ = some (.slice none 0 0) := cell_blk hblk.out 1
    have z0 := frozen_blk hblk.out 0
    have z1 := frozen_blk hblk.out 1
    clear h6 hw6 s2 s5
    obtain ⟨WE, hWE, hOE, hBE⟩ := body_put hblk.out (.slice A2 ls.length c2) (.slice A3 n c3)
    have HWE := hide hWE; have HOE := hide hOE; have HBE := hide hBE
    clear hWE hOE hBE
    go_frame
    go_wp2_with fail
    rw [HWE.out]
    clear e0 e1' z0 z1
    have t0 := cell_blk HBE.out 0
    have t1 := cell_blk HBE.out 1
    simp at t0 t1
    refine bodyPost_ret (v := .agg #[.slice A2 ls.length c2, .slice A3 n c3]) (by simp [results, Try.results11, go_sem, t0, t1]) rfl ?_
    have k2 := own_only3 t2.out HOE.out (fun q hq => by have := own_ge t2.out q hq; simp; omega)
    have k5 := t5.out.keep HOE.out (by simp)
    have hbE : Below g w WE := by
      have h1 : Below g w W := by rw [← HG.out]; exact HB.out
      have h2 := hb2.size
      exact (h1.trans (hb2.mono (by omega))).trans (HOE.out.below (by omega) (by simp))
    exact ⟨A2, A3, c2, c3, zs, rfl, Reads.of_own k2, k5.is s7.out, s6, s7, by rw [HG.out]; exact hbE⟩
end Go.Proofs.Ytdhmkapknaphpaa
