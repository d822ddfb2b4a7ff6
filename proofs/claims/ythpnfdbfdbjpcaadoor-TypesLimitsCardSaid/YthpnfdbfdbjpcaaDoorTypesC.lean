/-
  types: signatures read, and the same: contracts.
-/
import Derived.Test.YthpnfdbfdbjpcaaDoorTypesB
import Derived.Shelf.Strings.SlTrimAscii
namespace Go.Proofs.YthpnfdbfdbjpcaaDoor
open Go.RowKit
set_option linter.unusedVariables false

/-- the words between the commas of a text, its round brackets cut off -/
def wordsL (bs : List UInt8) : List (List UInt8) := (Lib.splitB ⟨#[44]⟩ 0 (Lib.countB ⟨(Lib.trimS bs [40, 41]).toArray⟩ ⟨#[44]⟩) ⟨(Lib.trimS bs [40, 41]).toArray⟩).map (·.data.toList)
def wordT (x : List UInt8) : Option UInt8 := if x = [105, 51, 50] then some 127 else if x = [105, 54, 52] then some 126 else none
/-- the types of a text -/
def readTs (bs : List UInt8) : List UInt8 := (wordsL bs).filterMap wordT
theorem words_back (xs : List ByteArray) : xs.map Value.string = (xs.map (·.data.toList)).map S := by
  rw [List.map_map]
  rfl
theorem wordsL_len (bs : List UInt8) : (wordsL bs).length = Lib.countB ⟨(Lib.trimS bs [40, 41]).toArray⟩ ⟨#[44]⟩ + 1 := by
  unfold wordsL
  rw [List.length_map]
  exact Lib.splitB_all ⟨#[44]⟩ (by decide) 0 _ _ rfl
theorem trimS_len (bs cs : List UInt8) : (Lib.trimS bs cs).length ≤ bs.length := by
  unfold Lib.trimS Lib.trimLeftS Lib.trimRightS
  refine Nat.le_trans (List.dropWhile_sublist _).length_le ?_
  rw [List.length_reverse]
  refine Nat.le_trans (List.dropWhile_sublist _).length_le ?_
  rw [List.length_reverse]
  exact Nat.le_refl _
theorem wordsL_le (bs : List UInt8) : (wordsL bs).length ≤ bs.length + 1 := by
  rw [wordsL_len]
  have h := Lib.countB_le ⟨#[44]⟩ (by decide) _ ⟨(Lib.trimS bs [40, 41]).toArray⟩ (Nat.le_refl _)
  have h2 := trimS_len bs [40, 41]
  have h3 : (⟨(Lib.trimS bs [40, 41]).toArray⟩ : ByteArray).size = (Lib.trimS bs [40, 41]).length := rfl
  omega

/-- the variable of the library's that Index reads -/
def LaidT (w : World) : Prop := ∃ m, w.cell? ⟨2, 0, none⟩ = some (.int .i64 m)
theorem LaidT.below {w w' : World} (h : LaidT w) (hb : Below w.heap.size w w') : LaidT w' := by
  obtain ⟨m, e⟩ := h
  exact ⟨m, (hb.cell (World.block_lt_of_cell? w _ e)).trans e⟩
theorem ty_elem : IsElem Tryd.prog 36 42 1 1 := IsElem.mk' Tryd.underlying36 (z := .int .u8 0) (by kernel_rfl) rfl (by omega)

set_option maxHeartbeats 1600000 in
theorem read_any (bs : List UInt8) (w : World) (hl : bs.length ≤ 1000) (ht : Hid (LaidT w)) :
    Calls Tryd.prog 23 #[.string ⟨bs.toArray⟩] w fun e w' => ∃ A c, e = .returned (.slice A (readTs bs).length c) ∧ Hid (w'.ownsRow w.heap.size 42 1 (.slice A (readTs bs).length c) (readTs bs).length ((readTs bs).map B)) ∧ Below w.heap.size w w' := by
  obtain ⟨base, hbase⟩ : ∃ b, w.heap.size = b := ⟨_, rfl⟩
  have HBA := hide hbase
  have hTr := Any.strings_Trim_laid Tryd.lays160 (by kernel_rfl) ⟨bs.toArray⟩ ⟨#[40, 41]⟩ w (by show bs.length ≤ _; omega) (by decide) (by
    intro j b hj
    match j, hj with
    | 0, hj => injection hj with hj; subst hj; decide
    | 1, hj => injection hj with hj; subst hj; decide
    | j + 2, hj => cases hj)
  rw [show (⟨bs.toArray⟩ : ByteArray).data.toList = bs from rfl, show (⟨#[40, 41]⟩ : ByteArray).data.toList = [40, 41] from rfl] at hTr
  have hwl := wordsL_len bs
  have hwle := wordsL_le bs
  have hwd : (Lib.splitB ⟨#[44]⟩ 0 (Lib.countB ⟨(Lib.trimS bs [40, 41]).toArray⟩ ⟨#[44]⟩) ⟨(Lib.trimS bs [40, 41]).toArray⟩).map Value.string = (wordsL bs).map S := words_back _
  have hTl := trimS_len bs [40, 41]
  have hrt : readTs bs = (wordsL bs).filterMap wordT := rfl
  rw [hrt]
  have hsp : ∀ (W : World) (m : Int), W.cell? ⟨2, 0, none⟩ = some (.int .i64 m) → Calls Tryd.prog 17 #[.string ⟨(Lib.trimS bs [40, 41]).toArray⟩, .string ⟨#[44]⟩] W fun e w' => e = .returned (.slice (some ⟨W.heap.size, 0, none⟩) (wordsL bs).length (wordsL bs).length) ∧ w' = W.alloc (.cells ((wordsL bs).map S).toArray 9) := by
    intro W m hm
    have h := Tryd.strings_Split ⟨(Lib.trimS bs [40, 41]).toArray⟩ ⟨#[44]⟩ m W (by show (Lib.trimS bs [40, 41]).length < _; omega) hm (by decide)
    rw [← hwl, hwd] at h
    exact h
  generalize Lib.trimS bs [40, 41] = T at *
  generalize wordsL bs = ws at *
  have HTR := hide hTr
  have HSP := hide hsp
  clear hTr hsp hwd hwl hrt hTl hbase
  go_enter Tryd.func23, Tryd.ntmps23
  go_wp2_with fail
  refine HTR.out.mono ?_; rintro e w1 ⟨rfl, hb1⟩
  obtain ⟨m, hm⟩ := ht.out.below hb1
  have HM := hide hm
  have HB1 := hide hb1
  clear hm hb1
  go_wp2_with fail
  refine (HSP.out _ m HM.out).mono ?_; rintro e w2 ⟨rfl, rfl⟩
  have hrw : Hid (Reads (w1.alloc (.cells (ws.map S).toArray 9)) (w1.heap.size + 1) 1 (some ⟨w1.heap.size, 0, none⟩) ws.length (ws.map S)) := Reads.of_new w1 (ws.map S) 9 ws.length (by simp)
  have hb2 : Hid (Below base w (w1.alloc (.cells (ws.map S).toArray 9))) := by
    have h := HB1.out.alloc HB1.out.size (.cells (ws.map S).toArray 9)
    rw [HBA.out] at h
    exact h
  have hs2 : (w1.alloc (.cells (ws.map S).toArray 9)).heap.size = w1.heap.size + 1 := by simp
  have hs1 : base ≤ w1.heap.size := by have := HB1.out.size; rw [HBA.out] at this; exact this
  obtain ⟨h1, hh1⟩ : ∃ h, w1.heap.size = h := ⟨_, rfl⟩
  rw [hh1] at hrw hs2 hs1 ⊢
  generalize w1.alloc (.cells (ws.map S).toArray 9) = w2 at *
  clear HB1 HTR HSP HM hh1
  go_wp2_with fail
  go_loopw [3, 5, 10] (fun v _ i w3 => ∃ (k : Nat) (ys : List UInt8), i = .int .i64 k ∧ k ≤ ws.length ∧ ys.length ≤ k ∧ Hid (ys = (ws.take k).filterMap wordT) ∧ Hid (w3.ownsRow (h1 + 1) 42 1 v ys.length (ys.map B)) ∧ Hid (Below (h1 + 1) w2 w3) ∧ h1 + 1 ≤ w3.heap.size) (fun _ _ i _ => ws.length - (intOf i).toNat)
  case atStart => exact ⟨0, [], rfl, by omega, by simp, by show _ = _; simp, own_nil _ _ _ _, Below.refl _ _, by omega⟩
  case round =>
    obtain ⟨k, ys, rfl, hk, hyl, hys, ho, hb, hbs⟩ := hrel
    by_cases hlt : k < ws.length
    · have hrk : Reads wr (h1 + 1) 1 (some ⟨h1, 0, none⟩) ws.length (ws.map S) := hrw.out.below hb.out
      obtain ⟨ad, l, had, hc, hcell⟩ := hrk.elem (k := k) hlt
      injection had with had
      subst had
      rw [add_at0, Nat.zero_add] at hcell
      have hst : ws.take (k + 1) = ws.take k ++ [l] := by rw [List.take_add_one, hc.out]; rfl
      have HST := hide hst
      have hroom : Room ys.length 1 1 := room_of (by omega) (by omega)
      unfold S at hcell
      clear hrk hst
      by_cases ha : l = [105, 51, 50]
      · have e1 : (l == [105, 51, 50]) = true := by rw [ha]; rfl
        have hw1 : wordT l = some 127 := by unfold wordT; rw [if_pos ha]
        have HW := hide hw1
        clear ha hw1
        go_wp2_with (at_builtin; refine wpList_push rfl _ _ rfl (h1 + 1) ty_elem _ ys.length (ys.map B) rfl wr _ _ rfl ho.out rfl rfl hroom hbs ?_; intro v' w' ho' hg')
        go_roundw
        case rel =>
          refine ⟨k + 1, ys ++ [127], by go_num, by omega, by simp; omega, ?_, own_cast ho' (by simp) (by simp; rfl), hb.out.grown hg'.by_ hbs (own_ge ho.out), Nat.le_trans hbs hg'.by_.size⟩
          show _ = _
          rw [HST.out, List.filterMap_append, ← hys.out]
          simp [HW.out]
        case measure => simp [intOf] <;> omega
      · have e1 : (l == [105, 51, 50]) = false := beq_eq_false_iff_ne.2 ha
        by_cases hb6 : l = [105, 54, 52]
        · have e2 : (l == [105, 54, 52]) = true := by rw [hb6]; rfl
          have hw1 : wordT l = some 126 := by unfold wordT; rw [if_neg ha, if_pos hb6]
          have HW := hide hw1
          clear ha hw1 hb6
          go_wp2_with (at_builtin; refine wpList_push rfl _ _ rfl (h1 + 1) ty_elem _ ys.length (ys.map B) rfl wr _ _ rfl ho.out rfl rfl hroom hbs ?_; intro v' w' ho' hg')
          go_roundw
          case rel =>
            refine ⟨k + 1, ys ++ [126], by go_num, by omega, by simp; omega, ?_, own_cast ho' (by simp) (by simp; rfl), hb.out.grown hg'.by_ hbs (own_ge ho.out), Nat.le_trans hbs hg'.by_.size⟩
            show _ = _
            rw [HST.out, List.filterMap_append, ← hys.out]
            simp [HW.out]
          case measure => simp [intOf] <;> omega
        · have e2 : (l == [105, 54, 52]) = false := beq_eq_false_iff_ne.2 hb6
          have hw1 : wordT l = none := by unfold wordT; rw [if_neg ha, if_neg hb6]
          have HW := hide hw1
          clear ha hw1 hb6
          go_wp2_with fail
          go_roundw
          case rel =>
            refine ⟨k + 1, ys, by go_num, by omega, by omega, ?_, ho, hb, hbs⟩
            show _ = _
            rw [HST.out, List.filterMap_append, ← hys.out]
            simp [HW.out]
          case measure => simp [intOf] <;> omega
    · have hkn : k = ws.length := by omega
      subst hkn
      have hy := hys.out
      rw [List.take_length] at hy
      subst hy
      obtain ⟨A, c, hv, hc, _⟩ := own_form ho.out
      subst hv
      clear hlt
      have hfin : Hid (Below base w wr) := hb2.out.trans (hb.out.mono (by omega))
      go_wp2_with fail
      go_ret
      exact ⟨A, c, rfl, by rw [HBA.out]; exact own_base ho.out (fun g hg => by have := own_ge ho.out g hg; omega), by rw [HBA.out]; exact hfin.out⟩
end Go.Proofs.YthpnfdbfdbjpcaaDoor
