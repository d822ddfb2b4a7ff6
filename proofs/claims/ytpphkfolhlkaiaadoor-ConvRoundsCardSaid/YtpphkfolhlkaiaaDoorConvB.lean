/-
  conv: the reference's Extend: contract.
-/
import Derived.Test.YtpphkfolhlkaiaaDoorConv
namespace Go.Proofs.YtpphkfolhlkaiaaDoor
open Go.RowKit
set_option linter.unusedVariables false

theorem own_empty {w : World} {base : Nat} {e : TypeId} {size : Nat} (hb : base ≤ w.heap.size) : (w.alloc (.cells #[] e)).ownsRow base e size (.slice (some ⟨w.heap.size, 0, none⟩) 0 0) 0 [] :=
  ⟨by simp, .inr ⟨w.heap.size, 0, #[], rfl, hb, heap_alloc_new w _, Nat.le_refl _, by unfold maxLen; omega, by simp, by simp⟩⟩

set_option maxHeartbeats 1600000 in
theorem refExtend_any (f t : Nat) (sg : Bool) (a : Nat) (w : World) (h1 : 1 ≤ f) (h2 : f ≤ t) (h3 : t ≤ 64) (ha : Hid (a < 2 ^ 64)) :
    Calls Tryd.prog 9 #[.int .i64 f, .int .i64 t, .bool sg, .int .u64 a] w fun e w' => e = .returned (.int .u64 (extV f t sg a : Nat)) ∧ Below w.heap.size w w' := by
  obtain ⟨base, hbase⟩ : ∃ b, w.heap.size = b := ⟨_, rfl⟩
  have HB := hide hbase; clear hbase
  go_enter Tryd.func9, Tryd.ntmps9
  go_wp2_with fail
  refine (refList_any 64 a w (by omega) ha).mono ?_; rintro e w1 ⟨A1, c1, rfl, ho1, hb1, hc1⟩
  have hl64 := bitsK_len a 64
  rw [hl64] at hc1 ho1 ⊢
  clear hl64
  have hr1 : Hid (Reads w1 w1.heap.size 1 A1 f ((bitsK a f).map T)) := by
    have h := (Reads.of_own ho1.out).upto (k := f) (by omega)
    rw [Nat.mul_one, ← List.map_take, bitsK_take _ _ _ (by omega)] at h
    exact h
  have hc1' : f ≤ c1 := by have := hc1.out; omega
  have hbf : Hid ((bitsK a f)[f - 1]? = some (bitN a (f - 1))) := bitsK_get a f (f - 1) (by omega)
  have hcell : ∃ ad, A1 = some ad ∧ w1.cell? (ad.add (f - 1)) = some (.bool (bitN a (f - 1))) := by
    obtain ⟨ad, h, _, hc⟩ := hr1.out.2 (by omega)
    exact ⟨ad, h, hc _ _ (by rw [List.getElem?_map, hbf.out]; rfl)⟩
  obtain ⟨ad, rfl, hcell⟩ := hcell
  have hsub : IntKind.i64.wrap ((f : Int) - 1) = ((f - 1 : Nat) : Int) := by rw [IntWalk.i64_in _ (by omega)]; omega
  have hbel1 : Hid (Below base w w1) := by rw [← HB.out]; exact hb1.out
  obtain ⟨top, htop⟩ : ∃ b, (sg && bitN a (f - 1)) = b := ⟨_, rfl⟩
  have HT := hide htop; clear htop
  cases sg
  · obtain rfl : top = false := by have := HT.out; simpa using this.symm
    go_wp2_with fail
    have hr0 : Hid (Reads w1 w1.heap.size 1 (some ad) (f + 0) ((bitsK a f ++ List.replicate 0 false).map T)) := by
      show Reads _ _ _ _ _ _
      have := hr1.out
      simpa using this
    clear hr1 ho1 hcell hsub hbf hb1
    have hcf : f ≤ 64 := by omega
    go_loopw [9] (fun v w2 => ∃ (A : Option Addr) (c j : Nat), v = .slice A (f + j) c ∧ f + j ≤ t ∧ Hid (Reads w2 w2.heap.size 1 A (f + j) ((bitsK a f ++ List.replicate j false).map T)) ∧ Hid (Below base w w2) ∧ base ≤ w2.heap.size) (fun v _ => match v with | .slice _ n _ => t - n | _ => 0)
    case atStart => exact ⟨some ad, c1, 0, rfl, by omega, hr0, hbel1, by have := hbel1.out.size; rw [HB.out] at this; exact this⟩
    case round =>
      obtain ⟨A, c, j, rfl, hj, hrd, hbl, hbs⟩ := hrel
      by_cases hlt : f + j < t
      · have hroom : Room 0 (f + j) 1 := room_of (by omega) (by omega)
        have hroom2 : Room (f + j) 1 1 := room_of (by omega) (by omega)
        go_wp2_with (first
          | (at_builtin; refine wpList_append_any rfl (.tmp 27) (.tmp 28) rfl base bool_elem _ 0 [] rfl (own_empty hbs) wr.heap.size A (f + j) c ((bitsK a f ++ List.replicate j false).map T) rfl (hrd.out.alloc (Nat.le_refl _) _) (T_one _) hroom (by simp; omega) ?_; intro v2 w2 ho2 hg2; have ho2' := hide (own_cast ho2 (Nat.zero_add _) (List.nil_append _)); obtain ⟨A2, c2, rfl, hk1, hk2⟩ := own_form ho2'.out; clear ho2; have hbs2 : base ≤ w2.heap.size := by (have := hg2.by_.size; simp at this; omega))
          | (at_builtin; refine wpList_push rfl (.tmp 29) (.tmp 31) rfl base bool_elem _ (f + j) ((bitsK a f ++ List.replicate j false).map T) rfl w2 _ _ rfl ho2'.out rfl rfl hroom2 hbs2 ?_; intro v3 w3 ho3 hg3; obtain ⟨A3, c3, rfl, hk3, hk4⟩ := own_form ho3))
        have hb3 := hg3.below hbs2 (own_ge ho2'.out)
        have hb2 := hg2.below (Bk := base) (by simp; omega) (by intro q hq; injection hq with hq; have hq' : wr.heap.size = q := hq; omega)
        go_roundw
        case rel =>
          refine ⟨A3, c3, j + 1, rfl, by omega, ?_, (hbl.out.trans (((Below.refl _ _).alloc hbs _).trans hb2)).trans hb3, Nat.le_trans hbs2 hb3.size⟩
          show Reads _ _ _ _ _ _
          have := Reads.of_own ho3
          rw [List.replicate_succ', ← List.append_assoc, List.map_append]
          exact this
        case measure => simp <;> omega
      · have hft : f + j = t := by omega
        clear hlt
        have hlen : (bitsK a f ++ List.replicate j false).length = f + j := by simp [bitsK_len]
        have HW := hide (refWord_any A c (bitsK a f ++ List.replicate j false) wr (by rw [hlen]; exact hrd) (by omega))
        rw [hlen, show j = t - f from by omega] at HW
        have hex := extV_bits f t false a
        rw [HT.out] at hex
        rw [hex] at HW
        rw [show f + (t - f) = f + j from by omega] at HW
        have hge : t ≤ f + j := by omega
        have HFT := hide hft
        clear hlen hex hft
        go_wp2_with fail
        refine HW.out.mono ?_; rintro e w' ⟨rfl, rfl⟩
        go_wp2_with fail
        go_ret
        exact ⟨rfl, by rw [HB.out]; exact hbl.out⟩
  · have htop : bitN a (f - 1) = top := by have := HT.out; simpa using this
    rw [htop] at hcell
    clear htop
    go_wp2_with fail
    have hr0 : Hid (Reads w1 w1.heap.size 1 (some ad) (f + 0) ((bitsK a f ++ List.replicate 0 top).map T)) := by
      show Reads _ _ _ _ _ _
      have := hr1.out
      simpa using this
    clear hr1 ho1 hcell hsub hbf hb1
    have hcf : f ≤ 64 := by omega
    go_loopw [9] (fun v w2 => ∃ (A : Option Addr) (c j : Nat), v = .slice A (f + j) c ∧ f + j ≤ t ∧ Hid (Reads w2 w2.heap.size 1 A (f + j) ((bitsK a f ++ List.replicate j top).map T)) ∧ Hid (Below base w w2) ∧ base ≤ w2.heap.size) (fun v _ => match v with | .slice _ n _ => t - n | _ => 0)
    case atStart => exact ⟨some ad, c1, 0, rfl, by omega, hr0, hbel1, by have := hbel1.out.size; rw [HB.out] at this; exact this⟩
    case round =>
      obtain ⟨A, c, j, rfl, hj, hrd, hbl, hbs⟩ := hrel
      by_cases hlt : f + j < t
      · have hroom : Room 0 (f + j) 1 := room_of (by omega) (by omega)
        have hroom2 : Room (f + j) 1 1 := room_of (by omega) (by omega)
        go_wp2_with (first
          | (at_builtin; refine wpList_append_any rfl (.tmp 27) (.tmp 28) rfl base bool_elem _ 0 [] rfl (own_empty hbs) wr.heap.size A (f + j) c ((bitsK a f ++ List.replicate j top).map T) rfl (hrd.out.alloc (Nat.le_refl _) _) (T_one _) hroom (by simp; omega) ?_; intro v2 w2 ho2 hg2; have ho2' := hide (own_cast ho2 (Nat.zero_add _) (List.nil_append _)); obtain ⟨A2, c2, rfl, hk1, hk2⟩ := own_form ho2'.out; clear ho2; have hbs2 : base ≤ w2.heap.size := by (have := hg2.by_.size; simp at this; omega))
          | (at_builtin; refine wpList_push rfl (.tmp 29) (.tmp 31) rfl base bool_elem _ (f + j) ((bitsK a f ++ List.replicate j top).map T) rfl w2 _ _ rfl ho2'.out rfl rfl hroom2 hbs2 ?_; intro v3 w3 ho3 hg3; obtain ⟨A3, c3, rfl, hk3, hk4⟩ := own_form ho3))
        have hb3 := hg3.below hbs2 (own_ge ho2'.out)
        have hb2 := hg2.below (Bk := base) (by simp; omega) (by intro q hq; injection hq with hq; have hq' : wr.heap.size = q := hq; omega)
        go_roundw
        case rel =>
          refine ⟨A3, c3, j + 1, rfl, by omega, ?_, (hbl.out.trans (((Below.refl _ _).alloc hbs _).trans hb2)).trans hb3, Nat.le_trans hbs2 hb3.size⟩
          show Reads _ _ _ _ _ _
          have := Reads.of_own ho3
          rw [List.replicate_succ', ← List.append_assoc, List.map_append]
          exact this
        case measure => simp <;> omega
      · have hft : f + j = t := by omega
        clear hlt
        have hlen : (bitsK a f ++ List.replicate j top).length = f + j := by simp [bitsK_len]
        have HW := hide (refWord_any A c (bitsK a f ++ List.replicate j top) wr (by rw [hlen]; exact hrd) (by omega))
        rw [hlen, show j = t - f from by omega] at HW
        have hex := extV_bits f t true a
        rw [HT.out] at hex
        rw [hex] at HW
        rw [show f + (t - f) = f + j from by omega] at HW
        have hge : t ≤ f + j := by omega
        have HFT := hide hft
        clear hlen hex hft
        go_wp2_with fail
        refine HW.out.mono ?_; rintro e w' ⟨rfl, rfl⟩
        go_wp2_with fail
        go_ret
        exact ⟨rfl, by rw [HB.out]; exact hbl.out⟩
end Go.Proofs.YtpphkfolhlkaiaaDoor
