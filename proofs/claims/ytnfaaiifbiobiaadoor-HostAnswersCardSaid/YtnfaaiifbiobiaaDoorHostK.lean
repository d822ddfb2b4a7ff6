/-
  host's laws: awake: contract.
-/
import Derived.Test.YtnfaaiifbiobiaaDoorHostJ
namespace Go.Proofs.YtnfaaiifbiobiaaDoor
open Go.RowKit
set_option linter.unusedVariables false

theorem Reads.of_new_n (w : World) (cs : List Value) (e : TypeId) (size n : Nat) (hn : cs.length = n * size) : Reads (w.alloc (.cells cs.toArray e)) (w.heap.size + 1) size (some ⟨w.heap.size, 0, none⟩) n cs := by
  refine ⟨hn, fun _ => ⟨_, rfl, by simp, fun j u hu => ?_⟩⟩
  have hadd : (⟨w.heap.size, 0, none⟩ : Addr).add j = ⟨w.heap.size, j, none⟩ := by unfold Addr.add; split <;> simp_all
  rw [hadd, cell_of_row (w.alloc (.cells cs.toArray e)) w.heap.size j cs.toArray e (0, 0) (heap_alloc_new w _)]
  simpa using hu

set_option maxRecDepth 100000 in
set_option maxHeartbeats 1600000 in
theorem awakeH (w : World) (ht : Hid (LaidH w)) : Calls Tryd.prog 6 #[] w fun e w' => e = .returned (.bool true) ∧ Hid (Below w.heap.size w w') := by
  have HP := hide (parseH_any exT w (by decide) ht)
  unfold ParseHP at HP
  rw [ex_ok, ex_rule, if_pos rfl] at HP
  obtain ⟨base, hbase⟩ : ∃ b, w.heap.size = b := ⟨_, rfl⟩
  have HBA := hide hbase
  clear hbase
  go_enter Tryd.func6, Tryd.ntmps6
  go_wp2_with fail
  refine HP.out.mono ?_; rintro e w1 ⟨rfl, h1⟩
  simp only [exR, S]
  go_upto_region 2 with fail
  obtain ⟨w2, hw2⟩ : ∃ x, w1.alloc (.cells #[.string ⟨#[101, 110, 118]⟩, .string ⟨#[42]⟩, .int .i64 1, .int .u64 7] 28) = x := ⟨_, rfl⟩
  rw [hw2]
  obtain ⟨g1, hg1⟩ : ∃ g, w1.heap.size = g := ⟨_, rfl⟩
  rw [hg1]
  have hB2 : Below w1.heap.size w1 w2 := by rw [← hw2]; exact (Below.refl _ _).alloc (Nat.le_refl _) _
  have hx2 : w2.heap[g1]? = some (.cells #[.string ⟨#[101, 110, 118]⟩, .string ⟨#[42]⟩, .int .i64 1, .int .u64 7] 28 (0, 0)) := by rw [← hw2, ← hg1]; exact heap_alloc_new w1 _
  have a0 : w2.cell? ⟨g1, 0, none⟩ = some (.string ⟨#[101, 110, 118]⟩) := cell_blk hx2 0
  have a1 : w2.cell? ⟨g1, 1, none⟩ = some (.string ⟨#[42]⟩) := cell_blk hx2 1
  have a2 : w2.cell? ⟨g1, 2, none⟩ = some (.int .i64 1) := cell_blk hx2 2
  have a3 : w2.cell? ⟨g1, 3, none⟩ = some (.int .u64 7) := cell_blk hx2 3
  obtain ⟨w3, hw3⟩ : ∃ x, w2.alloc (.cells #[.string ⟨#[101, 110, 118]⟩, .string ⟨#[42]⟩, .int .i64 1, .int .u64 7] 28) = x := ⟨_, rfl⟩
  have hB3 : Below w2.heap.size w2 w3 := by rw [← hw3]; exact (Below.refl _ _).alloc (Nat.le_refl _) _
  have hr3 : Hid (Reads w3 w3.heap.size 4 (some ⟨w2.heap.size, 0, none⟩) [exR].length ([exR].flatMap hrV)) := by
    have := Reads.of_new_n w2 [.string ⟨#[101, 110, 118]⟩, .string ⟨#[42]⟩, .int .i64 1, .int .u64 7] 28 4 1 rfl
    show Reads _ _ _ _ _ _
    rw [show w3.heap.size = w2.heap.size + 1 from by rw [← hw3]; simp, ← hw3]
    exact this
  have hfair : Fair [exR] := by intro r hr; simp at hr; subst hr; exact ⟨by decide, by decide, by decide⟩
  have HNW := hide (new_ok (some ⟨w2.heap.size, 0, none⟩) 1 1 [exR] w3 hr3 rfl (by omega) hfair rfl)
  have HB3 := hide ((h1.out.trans (hB2.mono h1.out.size)).trans (hB3.mono (by have := h1.out.size; have := hB2.size; omega)))
  have HW3 := hide hw3
  clear hw2 hg1 hB2 hx2 hw3 hB3 hr3 hfair HP h1
  go_wp2_with fail
  rw [HW3.out]
  refine HNW.out.mono ?_; rintro e w4 ⟨hb, ga, A1, c1, rfl, HO4, hlo, h4⟩
  clear a0 a1 a2 a3 HNW
  obtain ⟨w5, hw5⟩ : ∃ x, w4.alloc (.cells #[.int .u8 127] 54) = x := ⟨_, rfl⟩
  have hB5 : Below w4.heap.size w4 w5 := by rw [← hw5]; exact (Below.refl _ _).alloc (Nat.le_refl _) _
  have HO5 : Hid (HO w5 hb ga A1 1 c1 [exR] [0]) := HO4.out.below hB5
  have hrt : Hid (Reads w5 w5.heap.size 1 (some ⟨w4.heap.size, 0, none⟩) ([127] : List UInt8).length (([127] : List UInt8).map B)) := by
    have := Reads.of_new w4 [.int .u8 127] 54 1 rfl
    show Reads _ _ _ _ _ _
    rw [show w5.heap.size = w4.heap.size + 1 from by rw [← hw5]; simp, ← hw5]
    exact this
  have HAN := hide (answer_hit hb ga A1 1 c1 [exR] [0] [101, 110, 118] [120] 0 (.slice none 0 0) (some ⟨w4.heap.size, 0, none⟩) 1 [127] none 0 [] 0 0 exR w5 HO5 (show findH [exR] [101, 110, 118] [120] 0 = some 0 from rfl) rfl rfl (by omega) (by intro r hr; simp at hr; subst hr; exact ⟨exR_right, by decide⟩)
    (fun W h => (hrt.out.only h (by intro ad e; injection e with e; subst e; have := blk_lt HO4.out.asked; simp only [List.mem_singleton]; omega)).more h.size) (fun W h => Reads.none_) (by decide) (by decide) (by intro g hg; cases hg))
  have HB5 := hide ((HB3.out.trans (h4.out.mono HB3.out.size)).trans (hB5.mono (by have := HB3.out.size; have := h4.out.size; omega)))
  have HLO : Hid (w.heap.size ≤ hb ∧ w.heap.size ≤ ga) := by show _ ∧ _; have := HB3.out.size; have := hlo.out; omega
  have HW5 := hide hw5
  clear hw5 hB5 hrt HO4 hlo h4 HB3 HW3
  simp only [List.length_cons, List.length_nil, Nat.zero_add] at HAN
  go_wp2_with fail
  rw [HW5.out]
  refine HAN.out.mono ?_; rintro e w6 ⟨ho6, HO6, hres⟩
  rcases hres with ⟨hz, _⟩ | ⟨_, A, c, rfl, hrd, _⟩
  · exact absurd hz (by decide)
  obtain ⟨ad, u, rfl, hu, hcell⟩ := hrd.out.elem (k := 0) (by decide)
  have hu7 : u = 7 := by
    have : some (cutU 127 (resultH exR 1 [])) = some u := hu.out
    injection this with this
    exact this.symm
  subst hu7
  have HT := hide (total_any hb ga A1 1 c1 [exR] _ w6 HO6 (by intro a ha; simp at ha; omega))
  have hB6 : Hid (Below w.heap.size w w6) := by
    show Below _ _ _
    exact HB5.out.trans (ho6.out.below HB5.out.size (by simp; exact HLO.out.2))
  clear ho6 HO6 HAN HW5 HO5 hrd hu HB5 HLO
  have hc7 : w6.cell? ad = some (.int .u64 7) := by
    have := hcell
    rw [show ad.add 0 = ad from by simp [Addr.add]] at this
    exact this
  clear hcell
  go_wp2_with fail
  refine HT.out.mono ?_; rintro e w7 ⟨rfl, rfl⟩
  go_wp2_with fail
  go_ret
  exact ⟨rfl, hB6⟩
end Go.Proofs.YtnfaaiifbiobiaaDoor
