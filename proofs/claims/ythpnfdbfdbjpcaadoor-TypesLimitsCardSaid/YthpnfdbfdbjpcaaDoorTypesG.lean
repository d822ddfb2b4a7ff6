/-
  types: the document's example; TypesNames: the walk.
-/
import Derived.Test.YthpnfdbfdbjpcaaDoorTypesE
namespace Go.Proofs.YthpnfdbfdbjpcaaDoor
open Go.RowKit
set_option linter.unusedVariables false

theorem ex_text : sigL [127, 126] [127] = [40, 105, 51, 50, 44, 105, 54, 52, 41, 45, 62, 40, 105, 51, 50, 41] := by decide +kernel
set_option maxHeartbeats 1600000 in
theorem awakeT (w : World) (ht : Hid (LaidT w)) : Calls Tryd.prog 4 #[] w fun e w' => e = .returned (.bool true) ∧ Below w.heap.size w w' := by
  obtain ⟨h1, h2, h3⟩ := sig_back [127, 126] [127] (by decide) (by decide)
  have hp := parseSig_any (sigL [127, 126] [127]) w (by rw [ex_text]; simp) ht
  unfold ParseSigP at hp
  rw [h1, h2, h3, ex_text] at hp
  have HP := hide hp
  clear hp h1 h2 h3
  go_enter Tryd.func4, Tryd.ntmps4
  go_wp2_with fail
  refine HP.out.mono ?_
  rintro e w1 ⟨hb1, ⟨_, v, rfl, hs⟩ | ⟨h, _⟩⟩
  · obtain ⟨A1, c1, A2, c2, rfl, r1, r2⟩ := hs.ex
    have hsig := hide hs
    obtain ⟨ad, had, hadb, hcc⟩ := r1.out.2 (by decide)
    subst had
    have hc1 : w1.cell? ⟨ad.block, ad.off + 1, none⟩ = some (.int .u8 126) := hcc 1 _ rfl
    have HB1 := hide hb1
    clear hb1 hs hcc r1 r2 HP
    go_wp2_with fail
    have HPR := hide (print_any _ [127, 126] [127] (w1.alloc (.cells #[.slice (some ad) 2 c1, .slice A2 1 c2] 38)) (hsig.out.below ((Below.refl _ _).alloc (Nat.le_refl _) _)) (by decide) (by decide))
    rw [ex_text] at HPR
    refine HPR.out.mono ?_; rintro e w2 ⟨rfl, hb2⟩
    have hk : (w1.alloc (.cells #[.slice (some ad) 2 c1, .slice A2 1 c2] 38)).heap[w1.heap.size]? = some (.cells #[.slice (some ad) 2 c1, .slice A2 1 c2] 38 (0, 0)) := heap_alloc_new w1 _
    have hba : Below w1.heap.size w1 (w1.alloc (.cells #[.slice (some ad) 2 c1, .slice A2 1 c2] 38)) := (Below.refl _ _).alloc (Nat.le_refl _) _
    have hs1 : w1.heap.size < (w1.alloc (.cells #[.slice (some ad) 2 c1, .slice A2 1 c2] 38)).heap.size := by simp
    have e0 : w2.cell? ⟨w1.heap.size, 0, none⟩ = some (.slice (some ad) 2 c1) := cell_blk ((hb2.block _ hs1).trans hk) 0
    have hba2 : Below w1.heap.size w1 w2 := hba.trans (hb2.mono (by omega))
    have hc2 : w2.cell? ⟨ad.block, ad.off + 1, none⟩ = some (.int .u8 126) := (hba2.cell (World.block_lt_of_cell? _ _ hc1)).trans hc1
    have HF := hide (HB1.out.trans (hba2.mono HB1.out.size))
    generalize w1.alloc (.cells #[.slice (some ad) 2 c1, .slice A2 1 c2] 38) = w1a at *
    clear hba2 hba hs1 hk hc1 hb2 HB1 HPR
    go_wp2_with fail
    refine (tbits_any 126 w2).mono ?_; rintro e w3 ⟨rfl, rfl⟩
    go_wp2_with fail
    go_ret
    exact ⟨by rw [show (bitsV 126 == 64) = true by decide]; rfl, HF.out⟩
  · cases h


end Go.Proofs.YthpnfdbfdbjpcaaDoor
