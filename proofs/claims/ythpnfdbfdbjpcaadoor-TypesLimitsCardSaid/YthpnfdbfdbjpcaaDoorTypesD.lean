/-
  types: a text's signature: contracts.
-/
import Derived.Test.YthpnfdbfdbjpcaaDoorTypesC
namespace Go.Proofs.YthpnfdbfdbjpcaaDoor
open Go.RowKit
set_option linter.unusedVariables false

/-- the signature of a text, if it is one's -/
def sigP (s : List UInt8) : List UInt8 := readTs (Lib.cut s [45, 62]).1
def sigR (s : List UInt8) : List UInt8 := readTs (Lib.cut s [45, 62]).2.1
def sigOk (s : List UInt8) : Bool := (fewT (sigP s) && fewT (sigR s)) && decide (sigL (sigP s) (sigR s) = s)

def ParseSigP (w : World) (s : List UInt8) (e : Ending) (w' : World) : Prop :=
  Below w.heap.size w w' ∧ ((sigOk s = true ∧ ∃ v, e = .returned (.tuple #[v, .int .i64 0]) ∧ SigIs w' v (sigP s) (sigR s)) ∨ (sigOk s = false ∧ ∃ v, e = .returned (.tuple #[v, .int .i64 4]) ∧ SigIs w' v [] []))

theorem cell_blk {w : World} {g : Nat} {cs : Array Value} {t : TypeId} (h : w.heap[g]? = some (.cells cs t (0, 0))) (i : Nat) : w.cell? ⟨g, i, none⟩ = cs[i]? := cell_of_row w g i cs t (0, 0) h
theorem frozen_blk {w : World} {g : Nat} {cs : Array Value} {t : TypeId} (h : w.heap[g]? = some (.cells cs t (0, 0))) (i : Nat) : w.frozen? ⟨g, i, none⟩ = false := frozen_of_row w g i cs t h
theorem setCell_blk2 {w : World} {g : Nat} {cs : Array Value} {t : TypeId} (h : w.heap[g]? = some (.cells cs t (0, 0))) (i : Nat) (u : Value) : (w.setCell ⟨g, i, none⟩ u).heap[g]? = some (.cells (cs.setIfInBounds i u) t (0, 0)) := by
  simp [World.setCell, Array.getElem?_modify, h]
theorem cut_len (s p : List UInt8) : (Lib.cut s p).1.length ≤ s.length ∧ (Lib.cut s p).2.1.length ≤ s.length := by
  unfold Lib.cut
  split
  · refine ⟨?_, ?_⟩
    · simp only [List.length_take]; omega
    · simp only [List.length_drop]; omega
  · exact ⟨Nat.le_refl _, Nat.zero_le _⟩
theorem Reads.setOther {w : World} {Bk size n : Nat} {A : Option Addr} {xs : List Value} (h : Reads w Bk size A n xs) {p : Addr} (u : Value) (hne : ∀ ad, A = some ad → 0 < n → ad.block ≠ p.block) : Reads (w.setCell p u) Bk size A n xs :=
  ⟨h.1, fun hn => by
    obtain ⟨ad, e, hb, hc⟩ := h.2 hn
    refine ⟨ad, e, hb, fun j v hv => ?_⟩
    rw [World.cell?_setCell_other]
    · exact hc j v hv
    · intro heq
      have h1 := congrArg Addr.block heq
      rw [block_of_add] at h1
      exact hne ad e hn h1.symm⟩
theorem own_block {w : World} {base : Nat} {e : TypeId} {size n c : Nat} {A : Option Addr} {xs : List Value} (h : w.ownsRow base e size (.slice A n c) n xs) : ∀ ad, A = some ad → 0 < n → base ≤ ad.block := by
  intro ad hA hn
  obtain ⟨g, c', hv, hg, _⟩ := h.form hn
  injection hv with h1
  rw [hA] at h1
  injection h1 with h1
  subst h1
  exact hg
theorem readTs_len (bs : List UInt8) : (readTs bs).length ≤ bs.length + 1 := Nat.le_trans (List.length_filterMap_le _ _) (wordsL_le bs)

set_option maxHeartbeats 3200000 in
set_option maxRecDepth 100000 in
theorem parseSig_any (s : List UInt8) (w : World) (hl : s.length ≤ 500) (ht : Hid (LaidT w)) :
    Calls Tryd.prog 11 #[.string ⟨s.toArray⟩] w (ParseSigP w s) := by
  obtain ⟨b0, hb0⟩ : ∃ b, w.heap.size = b := ⟨_, rfl⟩
  obtain ⟨x1, hx1⟩ : ∃ x, (Lib.cut s [45, 62]).1 = x := ⟨_, rfl⟩
  obtain ⟨x2, hx2⟩ : ∃ x, (Lib.cut s [45, 62]).2.1 = x := ⟨_, rfl⟩
  have hcl := cut_len s [45, 62]
  rw [hx1, hx2] at hcl
  have hp : sigP s = readTs x1 := by unfold sigP; rw [hx1]
  have hr : sigR s = readTs x2 := by unfold sigR; rw [hx2]
  have hpl := readTs_len x1
  have hrl := readTs_len x2
  obtain ⟨m, hm⟩ := ht.out
  have hcut : ∀ (W : World), W.cell? ⟨2, 0, none⟩ = some (.int .i64 m) → Calls Tryd.prog 22 #[.string ⟨s.toArray⟩, .string ⟨#[45, 62]⟩] W fun e w' => e = .returned (.tuple #[.string ⟨x1.toArray⟩, .string ⟨x2.toArray⟩, .bool (Lib.cut s [45, 62]).2.2]) ∧ ∃ n, w' = W.drewN n := by
    intro W hW
    have h := Tryd.strings_Cut ⟨s.toArray⟩ ⟨#[45, 62]⟩ m W (by show s.length < _; omega) hW
    rw [show (⟨s.toArray⟩ : ByteArray).data.toList = s from rfl, show (⟨#[45, 62]⟩ : ByteArray).data.toList = [45, 62] from rfl, hx1, hx2] at h
    exact h
  unfold ParseSigP sigOk
  rw [hp, hr]
  have hrd1 := fun (W : World) (h : Hid (LaidT W)) => read_any x1 W (by omega) h
  have hrd2 := fun (W : World) (h : Hid (LaidT W)) => read_any x2 W (by omega) h
  generalize readTs x1 = ps at *
  generalize readTs x2 = rs at *
  have HRD1 := hide hrd1
  have HRD2 := hide hrd2
  clear hrd1 hrd2
  obtain ⟨w0, hw0⟩ : ∃ w1, w.alloc (.cells #[.slice none 0 0, .slice none 0 0] 38) = w1 := ⟨_, rfl⟩
  have hbw0 : Below w.heap.size w w0 := by rw [← hw0]; exact (Below.refl _ _).alloc (Nat.le_refl _) _
  have hblk : w0.heap[b0]? = some (.cells #[.slice none 0 0, .slice none 0 0] 38 (0, 0)) := by rw [← hw0, ← hb0, heap_alloc_new]
  have hs0 : b0 < w0.heap.size := by rw [← hw0, ← hb0]; simp
  have HM := hide ((LaidT.below ⟨m, hm⟩ hbw0 : LaidT w0))
  have hm0 : w0.cell? ⟨2, 0, none⟩ = some (.int .i64 m) := (hbw0.cell (World.block_lt_of_cell? w _ hm)).trans hm
  have HCUT := hide (hcut w0 hm0)
  have HBW0 := hide hbw0
  have HBLK := hide hblk
  have HS0 := hide hs0
  have HB0 := hide hb0
  obtain ⟨cb, hcb⟩ : ∃ q, (Lib.cut s [45, 62]).2.2 = q := ⟨_, rfl⟩
  rw [hcb] at HCUT
  clear hcut hm hm0 hbw0 hblk hs0 hx1 hx2 hcb hp hr
  go_enter Tryd.func11, Tryd.ntmps11
  go_wp2_with fail
  clear hw0
  refine HCUT.out.mono ?_; rintro e wd ⟨rfl, nd, rfl⟩
  have HBD : Hid (Below w0.heap.size w0 (w0.drewN nd)) := below_drewN (Below.refl _ _) nd
  generalize w0.drewN nd = wd at *
  go_wp2_with fail
  have hwd0 : b0 < wd.heap.size := Nat.lt_of_lt_of_le HS0.out HBD.out.size
  refine (HRD1.out wd (HM.out.below HBD.out)).mono ?_; rintro e w1 ⟨A1, c1, rfl, o1, hb1⟩
  have hne1 := own_block o1.out
  have r1 := hide (Reads.of_own o1.out)
  have HB1 := hide (HBD.out.trans (hb1.mono HBD.out.size))
  have hw10 : b0 < w1.heap.size := Nat.lt_of_lt_of_le hwd0 hb1.size
  clear hb1
  go_wp2_with fail
  refine (HRD2.out w1 (HM.out.below HB1.out)).mono ?_; rintro e w2 ⟨A2, c2, rfl, o2, hb2⟩
  have hne2 := own_block o2.out
  have r2 := hide (Reads.of_own o2.out)
  have HB2 := hide (HB1.out.trans (hb2.mono HB1.out.size))
  have hr1 : Hid (Reads w2 w2.heap.size 1 A1 ps.length (ps.map B)) := (r1.out.below hb2).more hb2.size
  have HNE1 : Hid (∀ ad, A1 = some ad → 0 < ps.length → ad.block ≠ b0) := fun ad h1 h2 => by have := hne1 ad h1 h2; omega
  have HNE2 : Hid (∀ ad, A2 = some ad → 0 < rs.length → ad.block ≠ b0) := fun ad h1 h2 => by have := hne2 ad h1 h2; omega
  clear hb2 r1 o1 o2 hne1 hne2 hwd0 hw10
  go_wp2_with fail
  have hsig : Hid (SigIs (w2.alloc (.cells #[.slice A1 ps.length c1, .slice A2 rs.length c2] 38)) (.agg #[.slice A1 ps.length c1, .slice A2 rs.length c2]) ps rs) :=
    (SigIs.mk ⟨A1, c1, A2, c2, rfl, hr1, r2⟩ : SigIs w2 _ ps rs).below ((Below.refl _ _).alloc (Nat.le_refl _) _)
  have hblk3 : Hid ((w2.alloc (.cells #[.slice A1 ps.length c1, .slice A2 rs.length c2] 38)).heap[w2.heap.size]? = some (.cells #[.slice A1 ps.length c1, .slice A2 rs.length c2] 38 (0, 0))) := heap_alloc_new w2 _
  have HB3 : Hid (Below w0.heap.size w0 (w2.alloc (.cells #[.slice A1 ps.length c1, .slice A2 rs.length c2] 38))) := HB2.out.alloc HB2.out.size _
  have hs3 : w2.heap.size < (w2.alloc (.cells #[.slice A1 ps.length c1, .slice A2 rs.length c2] 38)).heap.size := by simp
  obtain ⟨b3, hb3⟩ : ∃ b, w2.heap.size = b := ⟨_, rfl⟩
  rw [hb3] at hblk3 hs3 ⊢
  generalize w2.alloc (.cells #[.slice A1 ps.length c1, .slice A2 rs.length c2] 38) = w3 at *
  have HS3 := hide hs3
  clear hb3 hs3 hr1 r2
  refine (right_any _ ps rs w3 hsig (by omega) (by omega)).mono ?_; rintro e w4 ⟨rfl, hb4⟩
  have HB4 := hide (HB3.out.trans (hb4.mono HB3.out.size))
  have hsig4 : Hid (SigIs w4 (.agg #[.slice A1 ps.length c1, .slice A2 rs.length c2]) ps rs) := hsig.out.below hb4
  have hk4 := (hb4.block b3 HS3.out).trans hblk3.out
  have HK4 := hide hk4
  have HS4 := hide (Nat.lt_of_lt_of_le HS3.out hb4.size)
  clear hb4 hsig hblk3 hk4 HS3
  obtain ⟨q, hq⟩ : ∃ q, (fewT ps && fewT rs) = q := ⟨_, rfl⟩
  rw [hq]
  have hk0 : w4.heap[b0]? = some (.cells #[.slice none 0 0, .slice none 0 0] 38 (0, 0)) := (HB4.out.block b0 HS0.out).trans HBLK.out
  cases q with
  | false =>
    have e0 : w4.cell? ⟨b0, 0, none⟩ = some (.slice none 0 0) := cell_blk hk0 0
    have e1 : w4.cell? ⟨b0, 1, none⟩ = some (.slice none 0 0) := cell_blk hk0 1
    have z0 := frozen_blk hk0 0
    have z1 := frozen_blk hk0 1
    have HQ := hide hq
    clear hq
    go_wp2_with fail
    have hbF := setCell_blk2 (setCell_blk2 hk0 0 (.slice none 0 0)) 1 (.slice none 0 0)
    have hbb : Below b0 w4 ((w4.setCell ⟨b0, 0, none⟩ (.slice none 0 0)).setCell ⟨b0, 1, none⟩ (.slice none 0 0)) := ((Below.refl _ _).setCell (p := ⟨b0, 0, none⟩) (Nat.le_refl _) _).setCell (p := ⟨b0, 1, none⟩) (Nat.le_refl _) _
    have hsf : SigIs ((w4.setCell ⟨b0, 0, none⟩ (.slice none 0 0)).setCell ⟨b0, 1, none⟩ (.slice none 0 0)) (.agg #[(.slice none 0 0), (.slice none 0 0)]) [] [] := ⟨none, 0, none, 0, rfl, Reads.none_, Reads.none_⟩
    generalize (w4.setCell ⟨b0, 0, none⟩ (.slice none 0 0)).setCell ⟨b0, 1, none⟩ (.slice none 0 0) = wF at *
    have f0 : wF.cell? ⟨b0, 0, none⟩ = some ((.slice none 0 0)) := cell_blk hbF 0
    have f1 : wF.cell? ⟨b0, 1, none⟩ = some ((.slice none 0 0)) := cell_blk hbF 1
    refine bodyPost_ret (v := .tuple #[.agg #[(.slice none 0 0), (.slice none 0 0)], .int .i64 4]) (by simp [results, Tryd.results11, go_sem, f0, f1]) rfl ?_
    have h9 : Below w0.heap.size w0 w4 := HB4.out
    have h10 : Below b0 w w4 := by
      have h := HBW0.out
      rw [HB0.out] at h
      exact h.trans (h9.mono (by have := HS0.out; omega))
    refine ⟨by rw [HB0.out]; exact h10.trans hbb, .inr ⟨by rw [HQ.out]; rfl, _, rfl, hsf⟩⟩
  | true =>
    have HQ := hide hq
    have x0 : w4.cell? ⟨b3, 0, none⟩ = some (.slice A1 ps.length c1) := cell_blk HK4.out 0
    have x3 : w4.cell? ⟨b3, 1, none⟩ = some (.slice A2 rs.length c2) := cell_blk HK4.out 1
    clear hq
    go_wp2_with fail
    refine (print_any _ ps rs w4 hsig4 (by omega) (by omega)).mono ?_; rintro e w5 ⟨rfl, hb5⟩
    have hk5 : w5.heap[b0]? = some (.cells #[.slice none 0 0, .slice none 0 0] 38 (0, 0)) := (hb5.block b0 (Nat.lt_of_lt_of_le HS0.out HB4.out.size)).trans hk0
    have hk53 := (hb5.block b3 HS4.out).trans HK4.out
    have e0 : w5.cell? ⟨b0, 0, none⟩ = some (.slice none 0 0) := cell_blk hk5 0
    have e1 : w5.cell? ⟨b0, 1, none⟩ = some (.slice none 0 0) := cell_blk hk5 1
    have z0 := frozen_blk hk5 0
    have z1 := frozen_blk hk5 1
    have y0 : w5.cell? ⟨b3, 0, none⟩ = some (.slice A1 ps.length c1) := cell_blk hk53 0
    have y1 : w5.cell? ⟨b3, 1, none⟩ = some (.slice A2 rs.length c2) := cell_blk hk53 1
    have HB5 := hide (HB4.out.trans (hb5.mono HB4.out.size))
    have hsig5 := hsig4.out.below hb5
    have HSG5 := hide hsig5
    obtain ⟨q2, hq2⟩ : ∃ q, decide (sigL ps rs = s) = q := ⟨_, rfl⟩
    have HQ2 := hide hq2
    clear hb5 x0 x3 hk53 hsig5
    cases q2 with
    | false =>
      have hne : (sigL ps rs == s) = false := beq_eq_false_iff_ne.2 (of_decide_eq_false hq2)
      clear hq2
      go_wp2_with fail
      have hbF := setCell_blk2 (setCell_blk2 hk5 0 (.slice none 0 0)) 1 (.slice none 0 0)
      have hbb : Below b0 w5 ((w5.setCell ⟨b0, 0, none⟩ (.slice none 0 0)).setCell ⟨b0, 1, none⟩ (.slice none 0 0)) := ((Below.refl _ _).setCell (p := ⟨b0, 0, none⟩) (Nat.le_refl _) _).setCell (p := ⟨b0, 1, none⟩) (Nat.le_refl _) _
      have hsf : SigIs ((w5.setCell ⟨b0, 0, none⟩ (.slice none 0 0)).setCell ⟨b0, 1, none⟩ (.slice none 0 0)) (.agg #[(.slice none 0 0), (.slice none 0 0)]) [] [] := ⟨none, 0, none, 0, rfl, Reads.none_, Reads.none_⟩
      generalize (w5.setCell ⟨b0, 0, none⟩ (.slice none 0 0)).setCell ⟨b0, 1, none⟩ (.slice none 0 0) = wF at *
      have f0 : wF.cell? ⟨b0, 0, none⟩ = some ((.slice none 0 0)) := cell_blk hbF 0
      have f1 : wF.cell? ⟨b0, 1, none⟩ = some ((.slice none 0 0)) := cell_blk hbF 1
      refine bodyPost_ret (v := .tuple #[.agg #[(.slice none 0 0), (.slice none 0 0)], .int .i64 4]) (by simp [results, Tryd.results11, go_sem, f0, f1]) rfl ?_
      have h9 : Below w0.heap.size w0 w5 := HB5.out
      have h10 : Below b0 w w5 := by
        have h := HBW0.out
        rw [HB0.out] at h
        exact h.trans (h9.mono (by have := HS0.out; omega))
      refine ⟨by rw [HB0.out]; exact h10.trans hbb, .inr ⟨by rw [HQ.out, HQ2.out]; rfl, _, rfl, hsf⟩⟩
    | true =>
      have hne : (sigL ps rs == s) = true := beq_iff_eq.2 (of_decide_eq_true hq2)
      have hsF2 : SigIs ((w5.setCell ⟨b0, 0, none⟩ (.slice A1 ps.length c1)).setCell ⟨b0, 1, none⟩ (.slice A2 rs.length c2)) (.agg #[(.slice A1 ps.length c1), (.slice A2 rs.length c2)]) ps rs := by
        obtain ⟨A1', c1', A2', c2', he, q1, q2⟩ := HSG5.out.ex
        injection he with he
        injection he with he
        simp only [List.cons.injEq, Value.slice.injEq, true_and, and_true] at he
        obtain ⟨⟨rfl, rfl⟩, ⟨rfl, rfl⟩⟩ := he
        refine ⟨A1, c1, A2, c2, rfl, ?_, ?_⟩
        · have h := Reads.setOther (Reads.setOther q1.out (p := ⟨b0, 0, none⟩) (.slice A1 ps.length c1) HNE1.out) (p := ⟨b0, 1, none⟩) (.slice A2 rs.length c2) HNE1.out
          exact h.more (by simp [World.setCell])
        · have h := Reads.setOther (Reads.setOther q2.out (p := ⟨b0, 0, none⟩) (.slice A1 ps.length c1) HNE2.out) (p := ⟨b0, 1, none⟩) (.slice A2 rs.length c2) HNE2.out
          exact h.more (by simp [World.setCell])
      clear hq2
      go_wp2_with fail
      have hbF := setCell_blk2 (setCell_blk2 hk5 0 (.slice A1 ps.length c1)) 1 (.slice A2 rs.length c2)
      have hbb : Below b0 w5 ((w5.setCell ⟨b0, 0, none⟩ (.slice A1 ps.length c1)).setCell ⟨b0, 1, none⟩ (.slice A2 rs.length c2)) := ((Below.refl _ _).setCell (p := ⟨b0, 0, none⟩) (Nat.le_refl _) _).setCell (p := ⟨b0, 1, none⟩) (Nat.le_refl _) _
      have hsf : SigIs ((w5.setCell ⟨b0, 0, none⟩ (.slice A1 ps.length c1)).setCell ⟨b0, 1, none⟩ (.slice A2 rs.length c2)) (.agg #[(.slice A1 ps.length c1), (.slice A2 rs.length c2)]) ps rs := hsF2
      generalize (w5.setCell ⟨b0, 0, none⟩ (.slice A1 ps.length c1)).setCell ⟨b0, 1, none⟩ (.slice A2 rs.length c2) = wF at *
      have f0 : wF.cell? ⟨b0, 0, none⟩ = some ((.slice A1 ps.length c1)) := cell_blk hbF 0
      have f1 : wF.cell? ⟨b0, 1, none⟩ = some ((.slice A2 rs.length c2)) := cell_blk hbF 1
      refine bodyPost_ret (v := .tuple #[.agg #[(.slice A1 ps.length c1), (.slice A2 rs.length c2)], .int .i64 0]) (by simp [results, Tryd.results11, go_sem, f0, f1]) rfl ?_
      have h9 : Below w0.heap.size w0 w5 := HB5.out
      have h10 : Below b0 w w5 := by
        have h := HBW0.out
        rw [HB0.out] at h
        exact h.trans (h9.mono (by have := HS0.out; omega))
      refine ⟨by rw [HB0.out]; exact h10.trans hbb, .inl ⟨by rw [HQ.out, HQ2.out]; rfl, _, rfl, hsf⟩⟩
end Go.Proofs.YthpnfdbfdbjpcaaDoor
