/-
  code: a body's reader: typed, locals: contracts.
-/
import Derived.Test.YtdhmkapknaphpaaRepeat
import Derived.Test.YtdhmkapknaphpaaNestF
namespace Go.Proofs.Ytdhmkapknaphpaa
open Go.RowKit
set_option linter.unusedVariables false

theorem bitsV_zero (t : UInt8) : (bitsV t = 0) ↔ (t.toNat ≠ 126 ∧ t.toNat ≠ 127) := by
  unfold bitsV
  split
  · omega
  · split <;> omega

/-- what typed leaves -/
structure TypC (w : World) (rb g f c : Nat) (A : Option Addr) (bs : List UInt8) (r : Int) (at_ : Nat) (lv iv : Value) (bad : Int) (en : Ending) (w' : World) : Prop where
  out : ∃ (r' : Int) (at' : Nat) (t : UInt8) (bad' : Int) (e' : Nat), en = .returned (.int .u8 (t.toNat : Int)) ∧ Hid (CR w' rb g f c A bs r' at' lv iv bad' (e' : Int)) ∧ Hid (Only [f, g, rb] w w') ∧ r ≤ r' ∧ r' ≤ r + 1 ∧ at_ ≤ at' ∧ at' ≤ bs.length ∧
    Hid ((∃ rest, bs.drop at_ = t :: rest ∧ ¬ (t.toNat ≠ 126 ∧ t.toNat ≠ 127) ∧ e' = 0 ∧ at' = at_ + 1 ∧ bad' = bad) ∨ (bs.drop at_ = [] ∧ e' = 3 ∧ bad' = (at_ : Int)) ∨ (∃ t0 rest, bs.drop at_ = t0 :: rest ∧ (t0.toNat ≠ 126 ∧ t0.toNat ≠ 127) ∧ e' = 4 ∧ bad' = (at_ : Int)))

set_option maxHeartbeats 1600000 in
theorem rtyped_any (rb g f c : Nat) (A : Option Addr) (bs : List UInt8) (r : Int) (at_ : Nat) (lv iv : Value) (bad : Int) (w : World) (h : Hid (CR w rb g f c A bs r at_ lv iv bad 0))
    (hr1 : 0 ≤ r) (hr2 : r ≤ 890000) (hl : bs.length ≤ 1000) (h2 : at_ ≤ bs.length) :
    Calls Try.prog 31 #[.pointer (some ⟨rb, 0, none⟩)] w (TypC w rb g f c A bs r at_ lv iv bad) := by
  have c0 := cell_blk h.out.blk 0
  simp at c0
  have hrb := blk_lt h.out.blk
  have hgl := h.out.lt
  have hfl := h.out.cu.lt
  have HP := hide (place_at g f 0 (bs.length : Int) (at_ : Int) w (hide h.out.cu))
  by_cases hat : at_ < bs.length
  · obtain ⟨b, hb⟩ : ∃ b, bs[at_]? = some b := ⟨_, List.getElem?_eq_getElem hat⟩
    have hd : Hid (bs.drop at_ = b :: bs.drop (at_ + 1)) := by
      show _ = _
      obtain ⟨k1, k2⟩ := List.getElem?_eq_some_iff.1 hb
      rw [List.drop_eq_getElem_cons k1, k2]
    have HB := hide hb; clear hb
    have HTB := hide (tbits_any b)
    go_enter Try.func31, Try.ntmps31
    go_wp2_with fail
    refine HP.out.mono ?_; rintro e w1 ⟨rfl, hb1⟩
    have h1 := hide (h.out.below hb1.out hrb)
    have d0 := cell_blk h1.out.blk 0
    simp at d0
    have HU := hide (byte_ok g f c A bs r (-1) 0 (bs.length : Int) (at_ : Int) b w1 (hide h1.out.fl_) (hide h1.out.cu) hr1 (by omega) (by omega) (by omega) (by omega) (by omega) (.inl (by omega)) (by simpa using HB))
    go_wp2_with fail
    refine HU.out.mono ?_; rintro en w2 ⟨rfl, k1, k2, k3⟩
    have hm := hide (h1.out.moved (at' := at_ + 1) k3.out k1.out (by have := k2.out; simpa using this))
    have HF := hide (rfail_any rb g f c A bs (r + 1) (at_ + 1) lv iv bad 0 (at_ : Int) 0 w2 hm)
    go_wp2_with fail
    refine HF.out.mono ?_; rintro en w3 ⟨rfl, m1, m2⟩
    rw [errR_zero, badR_none] at m1
    have ho : Hid (Only [f, g, rb] w w3) := ((Only.of_below hb1.out).trans (k3.out.more (by simp))).trans (m2.out.more (by simp))
    have HF2 := hide (rfail_any rb g f c A bs (r + 1) (at_ + 1) lv iv bad 0 (at_ : Int) 4 w3 m1)
    by_cases hz : bitsV b = 0
    · have hz' := (bitsV_zero b).1 hz
      have HZ := hide hz'
      rw [hz] at HTB
      clear hz hz'
      go_wp2_with fail
      refine (HTB.out w3).mono ?_; rintro en w4 ⟨rfl, rfl⟩
      go_wp2_with fail
      refine HF2.out.mono ?_; rintro en w5 ⟨rfl, j1, j2⟩
      rw [errR_zero, badR_zero (by omega)] at j1
      go_wp2_with fail
      go_ret
      exact ⟨r + 1, at_ + 1, 0, _, 4, rfl, j1, ho.out.trans (j2.out.more (by simp)), by omega, by omega, by omega, by omega, .inr (.inr ⟨b, _, hd.out, HZ.out, rfl, rfl⟩)⟩
    · have hz' : ¬ (b.toNat ≠ 126 ∧ b.toNat ≠ 127) := fun x => hz ((bitsV_zero b).2 x)
      have HZ := hide hz'
      have fz : (bitsV b != 0) = true := by simpa using hz
      clear hz hz'
      go_wp2_with fail
      refine (HTB.out w3).mono ?_; rintro en w4 ⟨rfl, rfl⟩
      go_wp2_with fail
      go_ret
      exact ⟨r + 1, at_ + 1, b, bad, 0, rfl, m1, ho, by omega, by omega, by omega, by omega, .inl ⟨_, hd.out, HZ.out, rfl, rfl, rfl⟩⟩
  · have hat' : at_ = bs.length := by omega
    have hd : Hid (bs.drop at_ = []) := List.drop_of_length_le (by omega)
    have HTB := hide (tbits_any 0)
    have hb0 : bitsV 0 = 0 := rfl
    rw [hb0] at HTB
    have HAT := hide hat'
    clear hat hat' hb0
    go_enter Try.func31, Try.ntmps31
    go_wp2_with fail
    refine HP.out.mono ?_; rintro e w1 ⟨rfl, hb1⟩
    have h1 := hide (h.out.below hb1.out hrb)
    have d0 := cell_blk h1.out.blk 0
    simp at d0
    have HU := hide (byte_short g f 0 (bs.length : Int) w1 (by have := h1.out.cu; rw [HAT.out] at this; exact this) (by omega) (by omega))
    go_wp2_with fail
    refine HU.out.mono ?_; rintro en w2 ⟨rfl, dd, rfl⟩
    have hm := hide (h1.out.keep (Only.drewN [] w1 dd) (by simp) (by simp) (by simp) (by simp))
    have HF := hide (rfail_any rb g f c A bs r at_ lv iv bad 0 (at_ : Int) 3 _ hm)
    go_wp2_with fail
    refine HF.out.mono ?_; rintro en w3 ⟨rfl, m1, m2⟩
    rw [errR_zero, badR_zero (by omega)] at m1
    have ho : Hid (Only [f, g, rb] w w3) := ((Only.of_below hb1.out).trans (Only.drewN _ w1 dd)).trans (m2.out.more (by simp))
    have HF2 := hide (rfail_any rb g f c A bs r at_ lv iv (at_ : Int) 3 (at_ : Int) 4 w3 m1)
    go_wp2_with fail
    refine (HTB.out w3).mono ?_; rintro en w4 ⟨rfl, rfl⟩
    go_wp2_with fail
    refine HF2.out.mono ?_; rintro en w5 ⟨rfl, j1, j2⟩
    rw [errR_held (by omega), badR_held (by omega)] at j1
    go_wp2_with fail
    go_ret
    exact ⟨r, at_, 0, _, 3, rfl, j1, ho.out.trans (j2.out.more (by simp)), by omega, by omega, by omega, by omega, .inr (.inl ⟨hd.out, rfl, rfl⟩)⟩

/-- what locals leaves -/
structure LocC (w : World) (rb g f c : Nat) (A : Option Addr) (bs : List UInt8) (r : Int) (at_ : Nat) (iv : Value) (bad : Int) (locs : List UInt8) (p : Nat × Nat × Nat × UInt8 × Nat) (en : Ending) (w' : World) : Prop where
  out : ∃ (r' : Int) (at' : Nat) (lv' : Value) (bad' : Int), en = .returned (.tuple #[]) ∧ Hid (CR w' rb g f c A bs r' at' lv' iv bad' (p.1 : Int)) ∧ Hid (Below f w w') ∧ r ≤ r' ∧ r' ≤ r + 12 ∧ at_ ≤ at' ∧ at' ≤ bs.length ∧
    Hid ((p.1 = 0 ∧ at' = at_ + p.2.2.1 ∧ bad' = bad ∧ w'.ownsRow (rb + 1) 78 1 lv' (locs ++ List.replicate p.2.2.2.2 p.2.2.2.1).length ((locs ++ List.replicate p.2.2.2.2 p.2.2.2.1).map B)) ∨ (p.1 ≠ 0 ∧ bad' = (p.2.1 : Int)))

theorem runL_num {l : List UInt8} {at_ n : Nat} (h : (unsignedL l 32).2.2 ≠ 0) : (runL l at_ n).1 = (unsignedL l 32).2.2 ∧ (runL l at_ n).2.1 = at_ := by
  unfold runL
  simp only
  rw [if_pos h]
  exact ⟨rfl, rfl⟩
theorem runL_nil {l : List UInt8} {at_ n : Nat} {q0 q1 : Nat} (h : unsignedL l 32 = (q0, q1, 0)) (hd : l.drop q1 = []) : runL l at_ n = (3, at_ + q1, 0, 0, 0) := by
  unfold runL
  simp only [h, hd]
  rw [if_neg (fun x => x rfl)]
theorem runL_bad {l rest : List UInt8} {at_ n : Nat} {q0 q1 : Nat} {t : UInt8} (h : unsignedL l 32 = (q0, q1, 0)) (hd : l.drop q1 = t :: rest) (ht : t.toNat ≠ 126 ∧ t.toNat ≠ 127) : runL l at_ n = (4, at_ + q1, 0, 0, 0) := by
  unfold runL
  simp only [h, hd]
  rw [if_neg (fun x => x rfl), if_pos ht]
theorem runL_big {l rest : List UInt8} {at_ n : Nat} {q0 q1 : Nat} {t : UInt8} (h : unsignedL l 32 = (q0, q1, 0)) (hd : l.drop q1 = t :: rest) (ht : ¬ (t.toNat ≠ 126 ∧ t.toNat ≠ 127)) (hn : 50 - n < q0) : runL l at_ n = (15, at_, 0, 0, 0) := by
  unfold runL
  simp only [h, hd]
  rw [if_neg (fun x => x rfl), if_neg ht, if_pos hn]
theorem runL_ok {l rest : List UInt8} {at_ n : Nat} {q0 q1 : Nat} {t : UInt8} (h : unsignedL l 32 = (q0, q1, 0)) (hd : l.drop q1 = t :: rest) (ht : ¬ (t.toNat ≠ 126 ∧ t.toNat ≠ 127)) (hn : ¬ 50 - n < q0) : runL l at_ n = (0, 0, q1 + 1, t, q0) := by
  unfold runL
  simp only [h, hd]
  rw [if_neg (fun x => x rfl), if_neg ht, if_neg hn]

theorem alloc_drew_below {w w5 : World} {o : Obj} (h : Below (w.alloc o).drew.heap.size (w.alloc o).drew w5) : Below w.heap.size w w5 := by
  have ha : Below w.heap.size w (w.alloc o) := (Below.refl _ _).alloc (Nat.le_refl _) _
  have hd : Below w.heap.size w (w.alloc o).drew := ⟨ha.os, ha.tape, ha.output, ha.size, ha.block⟩
  exact hd.trans (h.mono hd.size)
theorem heap_alloc_new' {w W : World} {o : Obj} (h : W.heap = (w.alloc o).heap) : W.heap[w.heap.size]? = some o := by rw [h]; exact heap_alloc_new w o

set_option maxRecDepth 100000 in
set_option maxHeartbeats 3200000 in
theorem rlocals_any (rb g f c : Nat) (A : Option Addr) (bs : List UInt8) (r : Int) (at_ : Nat) (lv iv : Value) (bad : Int) (locs : List UInt8) (w : World) (h : Hid (CR w rb g f c A bs r at_ lv iv bad 0)) (ho : Hid (w.ownsRow (rb + 1) 78 1 lv locs.length (locs.map B)))
    (hr1 : 0 ≤ r) (hr2 : r ≤ 880000) (hl : bs.length ≤ 1000) (h2 : at_ ≤ bs.length) (h50 : locs.length ≤ 50) :
    Calls Try.prog 16 #[.pointer (some ⟨rb, 0, none⟩)] w (LocC w rb g f c A bs r at_ iv bad locs (runL (bs.drop at_) at_ locs.length)) := by
  have c0 := cell_blk h.out.blk 0
  simp at c0
  have hrb := blk_lt h.out.blk
  have hgl := h.out.lt
  have hfl := h.out.cu.lt
  have hobel : Hid (∀ {w' : World}, Only [f, g, rb] w w' → Below f w w') := by
    show ∀ {w'}, _
    intro w' hx
    exact hx.below (by omega) (by simp; omega)
  have howns : Hid (∀ {w' : World}, Only [f, g, rb] w w' → w'.ownsRow (rb + 1) 78 1 lv locs.length (locs.map B)) := by
    show ∀ {w'}, _
    intro w' hx
    exact own_only3 ho.out hx (fun q hq => by have := own_ge ho.out q hq; simp; omega)
  have HP := hide (place_at g f 0 (bs.length : Int) (at_ : Int) w (hide h.out.cu))
  obtain ⟨q0, q1, q2, hq⟩ : ∃ q0 q1 q2, unsignedL (bs.drop at_) 32 = (q0, q1, q2) := ⟨_, _, _, rfl⟩
  have HQ := hide hq; clear hq
  obtain ⟨Al, cl, hlv, hcl1, hcl2⟩ := own_form ho.out
  subst hlv
  go_enter Try.func16, Try.ntmps16
  go_wp2_with fail
  refine HP.out.mono ?_; rintro e w1 ⟨rfl, hb1⟩
  have h1 := hide (h.out.below hb1.out hrb)
  have HN := hide (rnumber_any rb g f c A bs r at_ _ iv bad w1 h1 hr1 (by omega) hl h2)
  rw [HQ.out] at HN
  go_wp2_with fail
  refine HN.out.mono ?_; rintro en w2 ⟨r2, at2, v, bad2, rfl, k1, k2, k3, k4, k5, k6, k7, k8⟩
  simp only at k1 k8
  have ho2 : Hid (Only [f, g, rb] w w2) := (Only.of_below hb1.out).trans k2.out
  have d4 := cell_blk k1.out.blk 4
  simp at d4
  by_cases hz : q2 = 0
  · subst hz
    obtain ⟨j1, j2, j3⟩ : v = q0 ∧ at2 = at_ + q1 ∧ bad2 = bad := by
      rcases k8.out with ⟨_, a, b, d⟩ | ⟨a, _⟩
      · exact ⟨a, b, d⟩
      · exact absurd rfl a
    subst j1
    subst j2
    subst j3
    have HT := hide (rtyped_any rb g f c A bs r2 (at_ + q1) _ iv bad2 w2 k1 (by omega) (by omega) hl k6)
    clear k8
    go_wp2_with fail
    refine HT.out.mono ?_; rintro en w3 ⟨r3, at3, t, bad3, e3, rfl, m1, m2, m3, m4, m5, m6, m7⟩
    have ho3 : Hid (Only [f, g, rb] w w3) := ho2.out.trans m2.out
    have f1 := cell_blk m1.out.blk 1
    have f4 := cell_blk m1.out.blk 4
    simp at f1 f4
    have HF := hide (rfail_any rb g f c A bs r3 at3 (.slice Al locs.length cl) iv bad3 (e3 : Int) (at_ : Int) 15 w3 m1)
    have hfst : (bs.drop at_).drop q1 = bs.drop (at_ + q1) := by rw [List.drop_drop]
    by_cases he3 : e3 = 0
    · subst he3
      obtain ⟨rest, g1, g2, g3, g4⟩ : ∃ rest, bs.drop (at_ + q1) = t :: rest ∧ ¬ (t.toNat ≠ 126 ∧ t.toNat ≠ 127) ∧ at3 = at_ + q1 + 1 ∧ bad3 = bad2 := by
        rcases m7.out with ⟨rest, a, b, _, d, e⟩ | ⟨_, a, _⟩ | ⟨_, _, _, _, a, _⟩
        · exact ⟨rest, a, b, d, e⟩
        · cases a
        · cases a
      by_cases hbig : 50 - locs.length < v
      · have fbig : decide ((50 : Int) - (locs.length : Int) < (v : Int)) = true := by simp; omega
        have HR := hide (runL_big (at_ := at_) HQ.out (hfst.trans g1) g2 hbig)
        rw [show ((0 : Nat) : Int) = 0 from rfl, errR_zero, badR_zero (by omega)] at HF
        clear hbig g1 g2 g3 g4 m7 hfst
        go_wp2_with fail
        refine HF.out.mono ?_; rintro en w4 ⟨rfl, n1, n2⟩
        have y4 := cell_blk n1.out.blk 4
        simp at y4
        clear f1 f4 d4
        go_wp2_with fail
        go_end0
        rw [HR.out]
        exact ⟨r3, at3, _, _, rfl, n1, hobel.out (ho3.out.trans (n2.out.more (by simp))), by omega, by omega, by omega, m6, .inr ⟨by simp, rfl⟩⟩
      · have fbig : decide ((50 : Int) - (locs.length : Int) < (v : Int)) = false := by simp; omega
        have hv50 : v ≤ 50 - locs.length := by omega
        have HR := hide (runL_ok (at_ := at_) HQ.out (hfst.trans g1) g2 hbig)
        have G3 := hide g3; have G4 := hide g4
        clear hbig g1 g2 g3 g4 m7 hfst HF d4
        have hown3 := hide (howns.out ho3.out)
        have hrb3 := blk_lt m1.out.blk
        have z1 := frozen_blk m1.out.blk 1
        have hroom : Room locs.length v 1 := room_of (by omega) (by omega)
        go_upto_region 7 with fail
        have hone : Hid (∀ u ∈ List.replicate v (Value.int .u8 (t.toNat : Int)), u.oneCell' = true) := by
          show ∀ u ∈ _, _
          intro u hu
          rw [(List.mem_replicate.1 hu).2]
          rfl
        go_region_law (first | (refine step_append_any rfl (.tmp 41) (.tmp 45) rfl (rb + 1) type_elem (.slice Al locs.length cl) locs.length (locs.map B) (by simp [Act.eval]) hown5.out w5.heap.size A5 v c5 (List.replicate v (.int .u8 (t.toNat : Int))) (by simp [Act.eval]) hrd5.out hone.out hroom hsz5 ?_; intro v6 w6 ho6 hg6; have hb6 := hide (hg6.below hsz5 (own_ge hown5.out)); have HO6 := hide ho6; clear ho6 hg6; obtain ⟨A6, c6, rfl, hc61, hc62⟩ := own_form HO6.out; have x1 := cell_blk ((hb6.out.block rb (by omega)).trans hblk5.out) 1; have zx1 := frozen_blk ((hb6.out.block rb (by omega)).trans hblk5.out) 1; simp at x1) | (go_simp; go_at_call 32; refine (repeat_any _ t v (by omega) _ (by exact hide (heap_alloc_new' (w := w3) rfl))).mono ?_; rintro en5 w5 ⟨v5, rfl, ho5, hb5⟩; obtain ⟨A5, c5, rfl, hc51, hc52⟩ := own_form ho5.out; have hb35 := hide (alloc_drew_below (w := w3) hb5.out); clear hb5; have hown5 := hide (own_only3 hown3.out (Only.of_below (S := []) hb35.out) (by simp)); have hblk5 := hide ((hb35.out.block rb hrb3).trans m1.out.blk); have u1 := cell_blk hblk5.out 1; simp at u1; have hrd5 : Hid (Reads w5 w5.heap.size 1 A5 v (List.replicate v (.int .u8 (t.toNat : Int)))) := Reads.of_own ho5.out; have hsz5 : rb + 1 ≤ w5.heap.size := Nat.le_trans hrb3 hb35.out.size))
        all_goals
          go_end0
          rw [HR.out]
          have hc5 := m1.out.below hb35.out hrb3
          have hc6 := (hc5.below hb6.out (by omega)).set.1 (.slice A6 (locs.length + v) c6)
          have hs6 : Only [rb] w6 (w6.setCell ⟨rb, 1, none⟩ (.slice A6 (locs.length + v) c6)) := Only.setCell w6 (p := ⟨rb, 1, none⟩) (by simp) _
          have ho6 := own_only3 HO6.out hs6 (fun q hq => by have := own_ge HO6.out q hq; simp; omega)
          have hsz6 := hb6.out.size
          have hw5 : Below f w w5 := (hobel.out ho3.out).trans (hb35.out.mono (by omega))
          have hw6 : Below f w (w6.setCell ⟨rb, 1, none⟩ (.slice A6 (locs.length + v) c6)) := (hw5.trans (hb6.out.mono (by omega))).trans (hs6.below (by omega) (by simp; omega))
          rw [G4.out] at hc6
          refine ⟨r3, at3, .slice A6 (locs.length + v) c6, bad2, rfl, ?_, ?_, by omega, by omega, by omega, m6, .inl ⟨rfl, G3.out, rfl, ?_⟩⟩
          · first | exact hc6 | exact ⟨hc6.blk, ⟨hc6.fl_.blk, hc6.fl_.row, hc6.fl_.cap⟩, ⟨hc6.cu.blk, hc6.cu.lt⟩, hc6.lt⟩
          · first | exact hw6 | exact ⟨hw6.os, hw6.tape, hw6.output, hw6.size, hw6.block⟩
          · exact own_cast ho6 (by simp) (by simp [B])
    · have HNE := hide he3
      have hres : Hid ((runL (bs.drop at_) at_ locs.length).1 = e3 ∧ bad3 = ((runL (bs.drop at_) at_ locs.length).2.1 : Int)) := by
        show _ ∧ _
        rcases m7.out with ⟨_, _, _, a, _⟩ | ⟨a, b, d⟩ | ⟨t0, rest, a, b, d, e⟩
        · exact absurd a he3
        · rw [runL_nil HQ.out (hfst.trans a)]; exact ⟨b.symm, d⟩
        · rw [runL_bad HQ.out (hfst.trans a) b]; exact ⟨d.symm, e⟩
      rw [errR_held (by omega), badR_held (by omega)] at HF
      have fe : ((e3 : Int) == 0) = false := by simp; omega
      obtain ⟨big, hbig⟩ : ∃ b, decide ((50 : Int) - (locs.length : Int) < (v : Int)) = b := ⟨_, rfl⟩
      clear he3 m7 hfst
      cases big with
      | true =>
        go_wp2_with fail
        refine HF.out.mono ?_; rintro en w4 ⟨rfl, n1, n2⟩
        have y4 := cell_blk n1.out.blk 4
        simp at y4
        clear f1 f4 d4
        go_wp2_with fail
        go_end0
        exact ⟨r3, at3, _, _, rfl, by rw [hres.out.1]; exact n1, hobel.out (ho3.out.trans (n2.out.more (by simp))), by omega, by omega, by omega, m6, .inr ⟨by rw [hres.out.1]; exact HNE.out, hres.out.2⟩⟩
      | false =>
        clear d4
        go_wp2_with fail
        go_end0
        exact ⟨r3, at3, _, _, rfl, by rw [hres.out.1]; exact m1, hobel.out ho3.out, by omega, by omega, by omega, m6, .inr ⟨by rw [hres.out.1]; exact HNE.out, hres.out.2⟩⟩
  · have fz : ((q2 : Int) != 0) = true := by simp; omega
    obtain ⟨e1, e2⟩ := runL_num (l := bs.drop at_) (at_ := at_) (n := locs.length) (by rw [HQ.out]; exact hz)
    rw [HQ.out] at e1
    have E1 := hide e1; have E2 := hide e2; have HZ := hide hz
    clear hz e1 e2
    go_wp2_with fail
    go_end0
    refine ⟨r2, at2, _, bad2, rfl, by rw [E1.out]; exact k1, hobel.out ho2.out, by omega, by omega, k5, k6, .inr ⟨by rw [E1.out]; exact HZ.out, ?_⟩⟩
    rcases k8.out with ⟨a, _⟩ | ⟨_, a⟩
    · exact absurd a HZ.out
    · rw [a, E2.out]
end Go.Proofs.Ytdhmkapknaphpaa
