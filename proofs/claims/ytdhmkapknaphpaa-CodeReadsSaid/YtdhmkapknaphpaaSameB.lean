/-
  Two lists of the same instructions, two bodies: EqualFunc, code.Same: contracts where they are the same.
-/
import Derived.Test.YtdhmkapknaphpaaSame
namespace Go.Proofs.Ytdhmkapknaphpaa
open Go.RowKit
set_option linter.unusedVariables false

/-- instructions that are read: where they lie, and their labels -/
structure IS (w : World) (Al : Option Addr) (ys : List (Value × DI)) : Prop where
  row : Reads w w.heap.size 5 Al ys.length (insV ys)
  labs : ∀ y ∈ ys, ∃ A c, y.1 = .slice A y.2.l.length c ∧ Reads w w.heap.size 1 A y.2.l.length (y.2.l.map U)
theorem IS.below {w w' : World} {Al : Option Addr} {ys : List (Value × DI)} (h : IS w Al ys) (hb : Below w.heap.size w w') : IS w' Al ys :=
  ⟨(h.row.below hb).more hb.size, fun y hy => by obtain ⟨A, c, h1, h2⟩ := h.labs y hy; exact ⟨A, c, h1, (h2.below hb).more hb.size⟩⟩
theorem IR.is {w : World} {base : Nat} {e : TypeId} {vs vo : Value} {Al : Option Addr} {n c : Nat} {ys : List (Value × DI)} (h : IR w base e vs vo (.slice Al n c) ys) (hn : ys.length = n) : IS w Al ys := by
  subst hn
  refine ⟨Reads.of_own h.row, fun y hy => ?_⟩
  have ho := h.labs y hy
  obtain ⟨A, c, hv, _⟩ := own_form ho
  rw [hv] at ho
  exact ⟨A, c, hv, Reads.of_own ho⟩
/-- one of them -/
theorem IS.at_ {w : World} {Al : Option Addr} {ys : List (Value × DI)} (h : IS w Al ys) {i : Nat} (hi : i < ys.length) :
    ∃ (ad : Addr) (A : Option Addr) (c : Nat) (d : DI), Al = some ad ∧ Hid ((dis ys)[i]? = some d) ∧ Hid (Reads w w.heap.size 1 A d.l.length (d.l.map U)) ∧ w.cell? (ad.add (i * 5)) = some (.int .i64 (d.code : Int)) ∧ w.cell? ⟨(ad.add (i * 5)).block, (ad.add (i * 5)).off + 1, none⟩ = some (.int .u64 (d.a : Int)) ∧
      w.cell? ⟨(ad.add (i * 5)).block, (ad.add (i * 5)).off + 2, none⟩ = some (.int .u64 (d.b : Int)) ∧ w.cell? ⟨(ad.add (i * 5)).block, (ad.add (i * 5)).off + 3, none⟩ = some (.int .i64 (d.al : Int)) ∧ w.cell? ⟨(ad.add (i * 5)).block, (ad.add (i * 5)).off + 4, none⟩ = some (.slice A d.l.length c) := by
  obtain ⟨ad, h1, _, h2⟩ := h.row.2 (by omega)
  have hg := List.getElem?_eq_getElem hi
  obtain ⟨A, c, hv, hr⟩ := h.labs ys[i] (List.getElem_mem hi)
  have hk : ∀ j, j < 5 → ∀ u, (insD (toX ys[i]))[j]? = some u → w.cell? ((ad.add (i * 5)).add j) = some u := by
    intro j hj u hu
    rw [add_of_add]
    refine h2 _ _ ?_
    unfold insV
    rw [flatMap_get (size := 5) (fun _ => rfl) (ys.map toX) i j (toX ys[i]) (by rw [List.getElem?_map, hg]; rfl) hj]
    exact hu
  have ha : ∀ j, 0 < j → (ad.add (i * 5)).add j = ⟨(ad.add (i * 5)).block, (ad.add (i * 5)).off + j, none⟩ := by
    intro j hj
    conv => lhs; unfold Addr.add
    split
    · omega
    · rfl
  refine ⟨ad, A, c, ys[i].2, h1, by show _ = _; simp [dis, hg], hr, ?_, ?_, ?_, ?_, ?_⟩
  · have := hk 0 (by omega) _ rfl
    rw [show (ad.add (i * 5)).add 0 = ad.add (i * 5) from by simp [Addr.add]] at this
    exact this
  · rw [← ha 1 (by omega)]; exact hk 1 (by omega) _ rfl
  · rw [← ha 2 (by omega)]; exact hk 2 (by omega) _ rfl
  · rw [← ha 3 (by omega)]; exact hk 3 (by omega) _ rfl
  · rw [← ha 4 (by omega)]; exact hk 4 (by omega) _ (by show some (toX ys[i]).2.2.2.2 = _; exact congrArg some hv)

set_option maxRecDepth 100000 in
set_option maxHeartbeats 1600000 in
theorem equalFunc_any (A1 A2 : Option Addr) (c1 c2 n : Nat) (ys zs : List (Value × DI)) (w : World) (i1 : Hid (IS w A1 ys)) (i2 : Hid (IS w A2 zs)) (hd : Hid (dis ys = dis zs)) (hn1 : ys.length = n) (hn2 : zs.length = n) (hlab : Hid (∀ y ∈ ys, y.2.l.length ≤ 100)) (hn : n ≤ 1000) :
    Calls Try.prog 22 #[.slice A1 n c1, .slice A2 n c2, .func (.func 23) #[] #[]] w fun e w' => e = .returned (.bool true) ∧ Hid (Below w.heap.size w w') := by
  have HN1 := hide hn1; have HN2 := hide hn2
  clear hn1 hn2
  go_enter Try.func22, Try.ntmps22
  go_wp2_with fail
  go_loopw [6, 17] (fun r i w1 => ∃ k : Nat, r = .bool false ∧ i = .int .i64 k ∧ k ≤ n ∧ Hid (Below w.heap.size w w1)) (fun _ i _ => n - (intOf i).toNat)
  case atStart => exact ⟨0, rfl, rfl, by omega, Below.refl _ _⟩
  case round =>
    obtain ⟨k, rfl, rfl, hk, hbw⟩ := hrel
    by_cases hlt : k < n
    · have j1 := hide (i1.out.below hbw.out)
      have j2 := hide (i2.out.below hbw.out)
      obtain ⟨a1, B1, b1, d, rfl, hd1, hr1, u0, u1, u2, u3, u4⟩ := j1.out.at_ (i := k) (by rw [HN1.out]; exact hlt)
      have hdl : d.l.length ≤ 100 := by
        have hm := List.mem_of_getElem? hd1.out
        simp only [dis, List.mem_map] at hm
        obtain ⟨y, hy, rfl⟩ := hm
        exact hlab.out y hy
      obtain ⟨W1, hW1⟩ : ∃ W1, wr.alloc (.cells #[.int .i64 (d.code : Int), .int .u64 (d.a : Int), .int .u64 (d.b : Int), .int .i64 (d.al : Int), .slice B1 d.l.length b1] 27) = W1 := ⟨_, rfl⟩
      have hb1 : Below wr.heap.size wr W1 := by rw [← hW1]; exact (Below.refl _ _).alloc (Nat.le_refl _) _
      have hx1 : Hid (W1.heap[wr.heap.size]? = some (.cells #[.int .i64 (d.code : Int), .int .u64 (d.a : Int), .int .u64 (d.b : Int), .int .i64 (d.al : Int), .slice B1 d.l.length b1] 27 (0, 0))) := by show _ = _; rw [← hW1]; exact heap_alloc_new wr _
      obtain ⟨a2, B2, b2, d2, rfl, hd2, hr2, v0, v1, v2, v3, v4⟩ := (j2.out.below hb1).at_ (i := k) (by rw [HN2.out]; exact hlt)
      have hdd : d2 = d := by have h1 := hd1.out; have h2 := hd2.out; rw [hd.out, h2] at h1; injection h1
      subst hdd
      obtain ⟨W2, hW2⟩ : ∃ W2, W1.alloc (.cells #[.int .i64 (d2.code : Int), .int .u64 (d2.a : Int), .int .u64 (d2.b : Int), .int .i64 (d2.al : Int), .slice B2 d2.l.length b2] 27) = W2 := ⟨_, rfl⟩
      have hb2 : Below W1.heap.size W1 W2 := by rw [← hW2]; exact (Below.refl _ _).alloc (Nat.le_refl _) _
      have hx2 : Hid (W2.heap[W1.heap.size]? = some (.cells #[.int .i64 (d2.code : Int), .int .u64 (d2.a : Int), .int .u64 (d2.b : Int), .int .i64 (d2.al : Int), .slice B2 d2.l.length b2] 27 (0, 0))) := by show _ = _; rw [← hW2]; exact heap_alloc_new W1 _
      have hx12 := hide ((hb2.block wr.heap.size (blk_lt hx1.out)).trans hx1.out)
      have hbb : Hid (Below wr.heap.size wr W2) := hb1.trans (hb2.mono hb1.size)
      have HSM := hide (isame_any d2 B1 B2 b1 b2 W2 (hide ((hr1.out.below hbb.out).more hbb.out.size)) (hide ((hr2.out.below hb2).more hb2.size)) (by omega))
      have hbw2 : Hid (Below w.heap.size w W2) := hbw.out.trans (hbb.out.mono hbw.out.size)
      obtain ⟨g1, hg1⟩ : ∃ g, wr.heap.size = g := ⟨_, rfl⟩
      obtain ⟨g2, hg2⟩ : ∃ g, W1.heap.size = g := ⟨_, rfl⟩
      rw [hg1] at hx12
      rw [hg2] at hx2
      have HW1 := hide hW1; have HW2 := hide hW2; have HG1 := hide hg1; have HG2 := hide hg2
      clear hW1 hW2 hb1 hb2 hg1 hg2
      go_upto_region 6 with fail
      rw [HW1.out, HG1.out]
      clear u0 u1 u2 u3 u4
      go_upto_region 7 with fail
      rw [HW2.out, HG2.out]
      clear v0 v1 v2 v3 v4
      have p0 := cell_blk hx12.out 0
      have p1 := cell_blk hx12.out 1
      have p2 := cell_blk hx12.out 2
      have p3 := cell_blk hx12.out 3
      have p4 := cell_blk hx12.out 4
      have q0 := cell_blk hx2.out 0
      have q1 := cell_blk hx2.out 1
      have q2 := cell_blk hx2.out 2
      have q3 := cell_blk hx2.out 3
      have q4 := cell_blk hx2.out 4
      simp at p0 p1 p2 p3 p4 q0 q1 q2 q3 q4
      go_wp2_with fail
      refine HSM.out.mono ?_; rintro ee w3 ⟨rfl, hb3⟩
      have hfin : Hid (Below w.heap.size w w3) := hbw2.out.trans (hb3.out.mono hbw2.out.size)
      clear p0 p1 p2 p3 p4 q0 q1 q2 q3 q4 HSM
      go_wp2_with fail
      go_roundw
      case rel => exact ⟨k + 1, rfl, by go_num, by omega, hfin⟩
      case measure => simp [intOf] <;> omega
    · have hkk : k = n := by omega
      clear hlt
      go_wp2_with fail
      go_ret
      exact ⟨rfl, hbw⟩

set_option maxHeartbeats 800000 in
theorem csame_any (A1 A2 L1 L2 : Option Addr) (c1 c2 e1 e2 n m : Nat) (ls : List UInt8) (ys zs : List (Value × DI)) (w : World) (hr1 : Hid (Reads w w.heap.size 1 L1 ls.length (ls.map B))) (hr2 : Hid (Reads w w.heap.size 1 L2 ls.length (ls.map B))) (hm : ls.length = m) (h50 : m ≤ 50) (i1 : Hid (IS w A1 ys)) (i2 : Hid (IS w A2 zs)) (hd : Hid (dis ys = dis zs)) (hn1 : ys.length = n) (hn2 : zs.length = n) (hlab : Hid (∀ y ∈ ys, y.2.l.length ≤ 100)) (hn : n ≤ 1000) :
    Calls Try.prog 10 #[.agg #[.slice L1 m e1, .slice A1 n c1], .agg #[.slice L2 m e2, .slice A2 n c2]] w fun e w' => e = .returned (.bool true) ∧ Hid (Below w.heap.size w w') := by
  subst hm
  obtain ⟨W, hW⟩ : ∃ W, (w.alloc (.cells #[.slice L1 ls.length e1, .slice A1 n c1] 34)).alloc (.cells #[.slice L2 ls.length e2, .slice A2 n c2] 34) = W := ⟨_, rfl⟩
  have hb : Below w.heap.size w W := by rw [← hW]; exact ((Below.refl _ _).alloc (Nat.le_refl _) _).alloc (by simp) _
  obtain ⟨g, hg⟩ : ∃ g, w.heap.size = g := ⟨_, rfl⟩
  have hx1 : Hid (W.heap[g]? = some (.cells #[.slice L1 ls.length e1, .slice A1 n c1] 34 (0, 0))) := by show _ = _; rw [← hW, ← hg, Below.heap_alloc _ _ _ (by simp)]; exact heap_alloc_new w _
  have hx2 : Hid (W.heap[g + 1]? = some (.cells #[.slice L2 ls.length e2, .slice A2 n c2] 34 (0, 0))) := by
    show _ = _
    rw [← hW, ← hg]
    have := heap_alloc_new (w.alloc (.cells #[.slice L1 ls.length e1, .slice A1 n c1] 34)) (.cells #[.slice L2 ls.length e2, .slice A2 n c2] 34)
    simpa using this
  have HE := hide (equalT_any L1 L2 e1 e2 ls W (hide ((hr1.out.below hb).more hb.size)) (hide ((hr2.out.below hb).more hb.size)) (by omega))
  have j1 := hide (i1.out.below hb)
  have j2 := hide (i2.out.below hb)
  have p0 := cell_blk hx1.out 0
  have q0 := cell_blk hx2.out 0
  simp at p0 q0
  have HW := hide hW; have HB := hide hb; have HG := hide hg
  clear hW hb hg
  go_enter Try.func10, Try.ntmps10
  go_upto_region 1 with fail
  rw [HW.out, HG.out]
  go_wp2_with fail
  refine HE.out.mono ?_; rintro ee w2 ⟨rfl, hb2⟩
  have HF := hide (equalFunc_any A1 A2 c1 c2 n ys zs w2 (hide (j1.out.below hb2.out)) (hide (j2.out.below hb2.out)) hd hn1 hn2 hlab hn)
  have hy1 := hide ((hb2.out.block g (blk_lt hx1.out)).trans hx1.out)
  have hy2 := hide ((hb2.out.block (g + 1) (blk_lt hx2.out)).trans hx2.out)
  have p1 := cell_blk hy1.out 1
  have q1 := cell_blk hy2.out 1
  simp at p1 q1
  clear p0 q0 hn1 hn2
  go_wp2_with fail
  refine HF.out.mono ?_; rintro ee w3 ⟨rfl, hb3⟩
  go_wp2_with fail
  go_ret
  have hB2 := HB.out.trans (hb2.out.mono HB.out.size)
  exact ⟨rfl, hB2.trans (hb3.out.mono hB2.size)⟩
end Go.Proofs.Ytdhmkapknaphpaa
