/-
  host: a rule's text: contract.
-/
import Derived.Test.YtnfaaiifbiobiaaDoorHostTxt
import Derived.Test.YtnfaaiifbiobiaaDoorHostG
import Derived.Deep.DeepCutAuto
namespace Go.Proofs.YtnfaaiifbiobiaaDoor
open Go.RowKit
set_option linter.unusedVariables false

/-- what the variables hold that this code reads -/
structure LaidH (w : World) : Prop where
  c : LaidC w
  ml : ∃ m, w.cell? ⟨0, 0, none⟩ = some (.int .i64 m)
theorem LaidH.below {w w' : World} (h : LaidH w) (hb : Below w.heap.size w w') : LaidH w' := by
  obtain ⟨m, hm⟩ := h.ml
  exact ⟨h.c.below hb, m, (hb.cell (World.block_lt_of_cell? w _ hm)).trans hm⟩

theorem str_elem : IsElem Tryd.prog 73 9 1 16 := IsElem.mk' Tryd.underlying73 (z := .string ⟨#[]⟩) (by kernel_rfl) rfl (by omega)
def namesV : List Value := [S [110, 111, 110, 101], S [99, 111, 110, 115, 116], S [115, 117, 109], S [99, 111, 117, 110, 116], S [108, 97, 115, 116]]
set_option maxRecDepth 100000 in
set_option maxHeartbeats 800000 in
theorem names_any (w : World) : Calls Tryd.prog 29 #[] w fun e w' => e = .returned (.agg namesV.toArray) ∧ Hid (Below w.heap.size w w') := by
  obtain ⟨b, hb⟩ : ∃ b, w.heap.size = b := ⟨_, rfl⟩
  have HB := hide hb
  clear hb
  go_enter Tryd.func29, Tryd.ntmps29
  go_wp2_with fail
  have hblk := heap_alloc_new w (.cells namesV.toArray 75)
  have hbb : Hid (Below w.heap.size w (w.alloc (.cells namesV.toArray 75))) := (Below.refl _ _).alloc (Nat.le_refl _) _
  show bodyPost _ _ _ _ _ (w.alloc (.cells namesV.toArray 75))
  generalize w.alloc (.cells namesV.toArray 75) = W at *
  have f0 : W.cell? ⟨w.heap.size, 0, none⟩ = some (S [110, 111, 110, 101]) := cell_blk hblk 0
  have f1 : W.cell? ⟨w.heap.size, 1, none⟩ = some (S [99, 111, 110, 115, 116]) := cell_blk hblk 1
  have f2 : W.cell? ⟨w.heap.size, 2, none⟩ = some (S [115, 117, 109]) := cell_blk hblk 2
  have f3 : W.cell? ⟨w.heap.size, 3, none⟩ = some (S [99, 111, 117, 110, 116]) := cell_blk hblk 3
  have f4 : W.cell? ⟨w.heap.size, 4, none⟩ = some (S [108, 97, 115, 116]) := cell_blk hblk 4
  refine bodyPost_ret (v := .agg namesV.toArray) (by simp [results, Tryd.results29, go_sem, f0, f1, f2, f3, f4, namesV]) rfl ?_
  exact ⟨rfl, hbb⟩

section
variable {P : Program} {o : Oper} {ρ : Operand → Value} {W W' : World} {post : Value → World → Prop} {v : Value}
theorem OpOut.index {t : TypeId} {x y : Operand} {a b : Value} (ho : o.op = .index t x y) (hx : ρ x = a) (hy : ρ y = b) (hr : (Instr.index t a b).run P W = .ok v W) (h : post v W) : OpOut P o ρ W post :=
  ⟨by unfold execOp; rw [ho]; simp only [hx, hy, Sem.run_bind, Sem.run_pure, hr, Result.andThen_ok]; exact h⟩
end
set_option maxRecDepth 100000 in
theorem run_names (k : Int) (h0 : 0 ≤ k) (h4 : k ≤ 4) (W : World) : (Instr.index 75 (.agg namesV.toArray) (.int .i64 k)).run Tryd.prog W = .ok (S (wayL k)) W := by
  have h : k = 0 ∨ k = 1 ∨ k = 2 ∨ k = 3 ∨ k = 4 := by omega
  rcases h with rfl | rfl | rfl | rfl | rfl
  all_goals
    go_simp
    rfl
theorem own_of_blk {w : World} {base g : Nat} {e : TypeId} {xs : List Value} {n : Nat} (hn : xs.length = n) (hg : base ≤ g) (hh : w.heap[g]? = some (.cells xs.toArray e (0, 0))) (hm : n ≤ 1000000) : w.ownsRow base e 1 (.slice (some ⟨g, 0, none⟩) n n) n xs :=
  ⟨by omega, .inr ⟨g, n, xs.toArray, rfl, hg, hh, Nat.le_refl _, by unfold maxLen; omega, by simp; omega, by simp [← hn]⟩⟩

/-- a text's parts, joined -/
theorem join_any (g c n : Nat) (l : List (List UInt8)) (w : World) (hn : l.length = n) (hl : n ≤ 1000) (hc : n ≤ c) (hcell : Hid (∀ j x, l[j]? = some x → w.cell? ⟨g, j, none⟩ = some (S x))) (hg : g < w.heap.size) (hj : (Lib.join l [32]).length ≤ 100000) :
    Calls Tryd.prog 42 #[.slice (some ⟨g, 0, none⟩) n c, .string ⟨#[32]⟩] w (SaysP w (Lib.join l [32])) := by
  have hm : (l.map fun x => (⟨x.toArray⟩ : ByteArray)).map (·.data.toList) = l := by rw [List.map_map]; exact List.map_id l
  have h := Tryd.strings_Join g 0 c (l.map fun x => (⟨x.toArray⟩ : ByteArray)) ⟨#[32]⟩ w (by
    intro j x hx
    rw [List.getElem?_map] at hx
    cases hj : l[j]? with
    | none => rw [hj] at hx; cases hx
    | some y =>
      rw [hj] at hx
      have : (⟨y.toArray⟩ : ByteArray) = x := by simpa using hx
      rw [← this, Nat.zero_add]
      exact hcell.out j y hj) hg (by rw [List.length_map]; omega) (by rw [List.length_map]; omega) (by rw [hm]; show (Lib.join l [32]).length ≤ _; omega)
  rw [hm, List.length_map, hn] at h
  exact h

set_option maxHeartbeats 800000 in
theorem print_no (r : HR) (w : World) (hm : r.m.length ≤ 9223372036854775807) (hn : r.n.length ≤ 9223372036854775807) (hw : r.word ≤ 18446744073709551615) (hq : Hid (rightH r = false)) :
    Calls Tryd.prog 32 #[.agg #[.string ⟨r.m.toArray⟩, .string ⟨r.n.toArray⟩, .int .i64 r.way, .int .u64 (r.word : Int)]] w (SaysP w []) := by
  have HF := hide (fun W => right_any r W hm hn (by omega))
  rw [hq.out] at HF
  obtain ⟨W, hW⟩ : ∃ W, w.alloc (.cells #[.string ⟨r.m.toArray⟩, .string ⟨r.n.toArray⟩, .int .i64 r.way, .int .u64 (r.word : Int)] 28) = W := ⟨_, rfl⟩
  have hb : Below w.heap.size w W := by rw [← hW]; exact (Below.refl _ _).alloc (Nat.le_refl _) _
  have hr : W.heap[w.heap.size]? = some (.cells #[.string ⟨r.m.toArray⟩, .string ⟨r.n.toArray⟩, .int .i64 r.way, .int .u64 (r.word : Int)] 28 (0, 0)) := by rw [← hW]; exact heap_alloc_new w _
  have a0 := cell_blk hr 0
  have a1 := cell_blk hr 1
  have a2 := cell_blk hr 2
  have a3 := cell_blk hr 3
  simp at a0 a1 a2 a3
  have HB := hide hb; have HW := hide hW
  clear hb hW hr hm hn hw hq
  go_enter Tryd.func32, Tryd.ntmps32
  go_upto_region 1 with fail
  rw [HW.out]
  go_wp2_with fail
  refine (HF.out W).mono ?_; rintro e w2 ⟨rfl, h2⟩
  go_wp2_with fail
  go_ret
  exact ⟨rfl, HB.out.trans (h2.out.mono HB.out.size)⟩

set_option maxRecDepth 100000 in
set_option maxHeartbeats 1600000 in
theorem print_yes (r : HR) (w : World) (hw : r.word ≤ 18446744073709551615) (hq : Hid (rightH r = true)) (ht : Hid (LaidC w)) :
    Calls Tryd.prog 32 #[.agg #[.string ⟨r.m.toArray⟩, .string ⟨r.n.toArray⟩, .int .i64 r.way, .int .u64 (r.word : Int)]] w (SaysP w (printH r)) := by
  obtain ⟨n1, n2, n3, n4, _⟩ := right_iff hq.out
  have k1 := named_len n1
  have k2 := named_len n2
  have HF := hide (fun W => right_any r W (by omega) (by omega) (by omega))
  rw [hq.out] at HF
  have hp : Hid (printH r = Lib.join (partsH r) [32]) := by show _ = _; unfold printH; rw [if_pos hq.out]
  have hpl := printH_len r hw
  rw [hp.out] at hpl ⊢
  have HPL := hide hpl
  have HLC := hide (fun W (h : Below w.heap.size w W) => convPrint_any 64 r.word W hw (hide (ht.out.below h)))
  have HRN := hide (run_names r.way n3 n4)
  obtain ⟨W, hW⟩ : ∃ W, w.alloc (.cells #[.string ⟨r.m.toArray⟩, .string ⟨r.n.toArray⟩, .int .i64 r.way, .int .u64 (r.word : Int)] 28) = W := ⟨_, rfl⟩
  obtain ⟨b1, hb1⟩ : ∃ b, w.heap.size = b := ⟨_, rfl⟩
  have hb : Below b1 w W := by rw [← hW, ← hb1]; exact (Below.refl _ _).alloc (Nat.le_refl _) _
  have hr : W.heap[b1]? = some (.cells #[.string ⟨r.m.toArray⟩, .string ⟨r.n.toArray⟩, .int .i64 r.way, .int .u64 (r.word : Int)] 28 (0, 0)) := by rw [← hW, ← hb1]; exact heap_alloc_new w _
  have a0 := cell_blk hr 0
  have a1 := cell_blk hr 1
  have a2 := cell_blk hr 2
  have a3 := cell_blk hr 3
  simp at a0 a1 a2 a3
  have HR_ := hide hr
  have HB := hide hb; have HW := hide hW; have HB1 := hide hb1
  clear hb hW hr n1 n2 n3 n4 k1 k2 hq hpl ht hb1
  go_enter Tryd.func32, Tryd.ntmps32
  go_upto_region 1 with fail
  rw [HW.out, HB1.out]
  go_wp2_with fail
  refine (HF.out W).mono ?_; rintro e w2 ⟨rfl, h2⟩
  clear a0 a1 a2 a3 HF
  go_upto_region 3 with fail
  have HR2 := hide ((h2.out.block b1 (blk_lt HR_.out)).trans HR_.out)
  have HB2 := hide (HB.out.trans (h2.out.mono (Nat.le_of_lt (blk_lt HR_.out))))
  have hb1lt : b1 < w2.heap.size := blk_lt HR2.out
  have HLT := hide hb1lt
  have HC : Hid (CellsOf w2 (b1 + 1) b1 #[.string ⟨r.m.toArray⟩, .string ⟨r.n.toArray⟩, .int .i64 r.way, .int .u64 (r.word : Int)]) := CellsOf.of HR2.out hb1lt
  clear h2 hb1lt
  refine wp_region_factsR grew_ext (factsOf [fun yy _ => yy = .pointer (some ⟨b1, 0, none⟩),
    fun yy _ => yy = S r.m,
    fun yy _ => yy = .pointer (some ⟨b1, 1, none⟩),
    fun yy _ => yy = S r.n,
    fun yy _ => yy = .agg namesV.toArray,
    fun yy _ => yy = .pointer (some ⟨b1, 2, none⟩),
    fun yy _ => yy = .int .i64 r.way,
    fun yy _ => yy = S (wayL r.way),
    fun yy W => ∃ g, yy = .slice (some ⟨g, 0, none⟩) 3 3 ∧ b1 + 1 ≤ g ∧ W.heap[g]? = some (.cells #[S r.m, S r.n, S (wayL r.way)] 9 (0, 0)),
    fun yy W => ∃ g, yy = .slice (some ⟨g, 0, none⟩) 3 3 ∧ b1 + 1 ≤ g ∧ W.heap[g]? = some (.cells #[S r.m, S r.n, S (wayL r.way)] 9 (0, 0))]) (by kernel_rfl) (by kernel_rfl) ?_ ?_
  · refine ⟨?_, ?_, ?_, ?_, ?_, ?_, ?_, ?_, ?_, ?_, trivial⟩
    · refine ⟨fun ρ W hk => ?_⟩
      have o1 : ρ (.tmp 1) = .pointer (some ⟨b1, 0, none⟩) := hk.old 1 (by decide)
      exact OpOut.fieldAddr (x := .tmp 1) rfl o1 (by go_simp) ⟨Below.refl _ _, rfl⟩
    · refine ⟨fun ρ W hk => ?_⟩
      have h0 := (hk.fact 0 7 (by decide) rfl).pure
      have hc := HC.out.out W hk.below 0 (S r.m) rfl
      exact OpOut.load (x := .tmp 7) rfl h0 (by go_simp) ⟨Below.refl _ _, rfl⟩
    · refine ⟨fun ρ W hk => ?_⟩
      have o1 : ρ (.tmp 1) = .pointer (some ⟨b1, 0, none⟩) := hk.old 1 (by decide)
      exact OpOut.fieldAddr (x := .tmp 1) rfl o1 (by go_simp) ⟨Below.refl _ _, rfl⟩
    · refine ⟨fun ρ W hk => ?_⟩
      have h0 := (hk.fact 2 9 (by decide) rfl).pure
      have hc := HC.out.out W hk.below 1 (S r.n) rfl
      exact OpOut.load (x := .tmp 9) rfl h0 (by go_simp) ⟨Below.refl _ _, rfl⟩
    · refine ⟨fun ρ W hk => ?_⟩
      refine OpOut.fn (args := #[]) rfl (hk.func _) (by simp) Tryd.func29 (by kernel_rfl) rfl ?_
      refine (names_any W).mono ?_; rintro e w5 ⟨rfl, hb5⟩
      exact ⟨_, rfl, hb5.out, rfl⟩
    · refine ⟨fun ρ W hk => ?_⟩
      have o1 : ρ (.tmp 1) = .pointer (some ⟨b1, 0, none⟩) := hk.old 1 (by decide)
      exact OpOut.fieldAddr (x := .tmp 1) rfl o1 (by go_simp) ⟨Below.refl _ _, rfl⟩
    · refine ⟨fun ρ W hk => ?_⟩
      have h0 := (hk.fact 5 12 (by decide) rfl).pure
      have hc := HC.out.out W hk.below 2 (.int .i64 r.way) rfl
      exact OpOut.load (x := .tmp 12) rfl h0 (by go_simp) ⟨Below.refl _ _, rfl⟩
    · refine ⟨fun ρ W hk => ?_⟩
      have h4 := (hk.fact 4 11 (by decide) rfl).pure
      have h6 := (hk.fact 6 13 (by decide) rfl).pure
      exact OpOut.index (x := .tmp 11) (y := .tmp 13) rfl h4 h6 (HRN.out W) ⟨Below.refl _ _, rfl⟩
    · refine ⟨fun ρ W hk => ?_⟩
      have h1 := (hk.fact 1 8 (by decide) rfl).pure
      have h3 := (hk.fact 3 10 (by decide) rfl).pure
      have h7 := (hk.fact 7 14 (by decide) rfl).pure
      exact OpOut.buildSlice (us := #[(0, .string ⟨r.m.toArray⟩), (1, .string ⟨r.n.toArray⟩), (2, .string ⟨(wayL r.way).toArray⟩)]) rfl (by simp [h1, h3, h7, S]) (by go_simp; rfl) ⟨(Below.refl _ _).alloc (Nat.le_refl _) _, W.heap.size, rfl, by have := hk.below.size; have := HLT.out; omega, heap_alloc_new W _⟩
    · refine ⟨fun ρ W hk => ?_⟩
      obtain ⟨w6, hw6, g, e6, hg, hh⟩ := hk.fact 8 15 (by decide) rfl
      exact OpOut.assign (.tmp 15) rfl ⟨Below.refl _ _, g, e6, hg, (hw6.block g (blk_lt hh)).trans hh⟩
  · intro vs W2 hb hf
    obtain ⟨w7, hw7, g, e9, hg, hh⟩ := hf 9 (by decide)
    have hh2 := (hw7.block g (blk_lt hh)).trans hh
    have HH2 := hide hh2; have HG := hide hg
    have HB3 := hide (HB2.out.trans (hb.mono (Nat.le_of_lt HLT.out)))
    have hc := HC.out.out W2 hb
    have y2 := hc 2 (.int .i64 r.way) rfl
    have y3 := hc 3 (.int .u64 (r.word : Int)) rfl
    have HBW := hide hb.size
    clear hf hh hh2 hw7 hg hc hb HC
    simp only [fillL]
    rw [e9]
    generalize vs 0 = v0, vs 1 = v1, vs 2 = v2, vs 3 = v3, vs 4 = v4, vs 5 = v5, vs 6 = v6, vs 7 = v7, vs 8 = v8
    clear e9
    go_frame
    by_cases hz : r.way = 0
    · have hz0 : (r.way != 0) = false := by simp [hz]
      have hparts : partsH r = [r.m, r.n, wayL r.way] := by unfold partsH; rw [if_pos hz]
      have HPT := hide hparts
      have hcell : Hid (∀ j x, [r.m, r.n, wayL r.way][j]? = some x → W2.cell? ⟨g, j, none⟩ = some (S x)) := by
        show ∀ j x, _
        intro j x hx
        rw [cell_blk HH2.out j]
        match j, hx with
        | 0, hx => simp at hx; subst hx; rfl
        | 1, hx => simp at hx; subst hx; rfl
        | 2, hx => simp at hx; subst hx; rfl
        | j + 3, hx => simp at hx
      have HJ := hide (join_any g 3 3 _ W2 rfl (by omega) (by omega) hcell (blk_lt HH2.out) (by have := HPL.out; rw [HPT.out] at this; omega))
      have HJL : Hid (Lib.join (partsH r) [32] = Lib.join [r.m, r.n, wayL r.way] [32]) := by show _ = _; rw [hparts]
      clear hz hparts hcell
      generalize Lib.join [r.m, r.n, wayL r.way] [32] = jl at HJ HJL
      go_wp2_with fail
      refine HJ.out.mono ?_; rintro e w8 ⟨rfl, h8⟩
      have HF8 : Hid (Below w.heap.size w w8) := by show Below _ _ _; rw [HB1.out]; exact HB3.out.trans (h8.mono (by have := HBW.out; have := HLT.out; omega))
      clear h8
      go_wp2_with fail
      go_ret
      exact ⟨by rw [HJL.out]; rfl, HF8.out⟩
    · have hz0 : (r.way != 0) = true := by simpa using hz
      have hparts : partsH r = [r.m, r.n, wayL r.way, Lib.itoa (signV 64 r.word)] := by unfold partsH; rw [if_neg hz]
      have HPT := hide hparts
      have HJL : Hid (Lib.join (partsH r) [32] = Lib.join [r.m, r.n, wayL r.way, Lib.itoa (signV 64 r.word)] [32]) := by show _ = _; rw [hparts]
      have HCP := hide (HLC.out W2 (by rw [HB1.out]; exact HB3.out))
      clear hz hparts HLC
      generalize Lib.itoa (signV 64 r.word) = tx at HPT HJL HCP
      go_upto_region 5 with fail
      go_wp2_with fail
      refine HCP.out.mono ?_; rintro e w8 ⟨rfl, h8⟩
      have HH8 := hide ((h8.block g (blk_lt HH2.out)).trans HH2.out)
      have HB8 := hide (HB3.out.trans (h8.mono (by have := HBW.out; have := HLT.out; omega)))
      have HS8 : Hid (b1 + 1 ≤ w8.heap.size) := by show _ ≤ _; have := HBW.out; have := HLT.out; have := h8.size; omega
      have HO8 : Hid (w8.ownsRow (b1 + 1) 9 1 (.slice (some ⟨g, 0, none⟩) 3 3) 3 [S r.m, S r.n, S (wayL r.way)]) := own_of_blk rfl HG.out HH8.out (by omega)
      have hroom : Room 3 1 16 := room_of (by omega) (by omega)
      clear h8 y2 y3 HCP HH2 hz0
      go_wp2_with (at_builtin; refine wpList_push rfl _ _ rfl (b1 + 1) str_elem _ 3 [S r.m, S r.n, S (wayL r.way)] rfl w8 (S tx) _ rfl HO8.out rfl rfl hroom HS8.out ?_; intro v' w' ho' hg')
      obtain ⟨A2, c2, hv2, hc2, _⟩ := own_form ho'
      subst hv2
      obtain ⟨g2, hA2⟩ : ∃ g2, A2 = some ⟨g2, 0, none⟩ := by
        obtain ⟨g2, cap, hv, _⟩ := ho'.form (by omega)
        injection hv with hv
        exact ⟨g2, hv⟩
      subst hA2
      have hcell : Hid (∀ j x, [r.m, r.n, wayL r.way, tx][j]? = some x → w'.cell? ⟨g2, j, none⟩ = some (S x)) := by
        show ∀ j x, _
        intro j x hx
        have hc := ho'.cells (g := g2) rfl j (S x) (by
          match j, hx with
          | 0, hx => simp at hx; subst hx; rfl
          | 1, hx => simp at hx; subst hx; rfl
          | 2, hx => simp at hx; subst hx; rfl
          | 3, hx => simp at hx; subst hx; rfl
          | j + 4, hx => simp at hx)
        rw [show (⟨g2, 0, none⟩ : Addr).add j = ⟨g2, j, none⟩ from by unfold Addr.add; split <;> simp_all] at hc
        exact hc
      have HJ := hide (join_any g2 c2 4 _ w' rfl (by omega) hc2 hcell (ho'.lt g2 rfl).2 (by have := HPL.out; rw [HPT.out] at this; omega))
      have HB9 : Hid (Below b1 w w') := HB8.out.grown hg'.by_ (by have := HS8.out; omega) (fun k hk => by have := own_ge HO8.out k hk; omega)
      have HS9 : Hid (b1 ≤ w'.heap.size) := by show _ ≤ _; have := HS8.out; have := hg'.by_.size; omega
      clear ho' hg' hcell hc2
      generalize Lib.join [r.m, r.n, wayL r.way, tx] [32] = jl at HJ HJL
      go_wp2_with fail
      refine HJ.out.mono ?_; rintro e w9 ⟨rfl, h9⟩
      have HF9 : Hid (Below w.heap.size w w9) := by show Below _ _ _; rw [HB1.out]; exact HB9.out.trans (h9.mono HS9.out)
      clear h9
      go_wp2_with fail
      go_ret
      exact ⟨by rw [HJL.out]; rfl, HF9.out⟩
end Go.Proofs.YtnfaaiifbiobiaaDoor
