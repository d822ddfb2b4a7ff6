/-
  types: the document's answer: types, read on from a place: contract.
-/
import Derived.Test.YtgohojbgcjiebaaDoorTypesF
import Derived.Test.YtgohojbgcjiebaaDoorTypesQ
namespace Go.Proofs.YtgohojbgcjiebaaDoor
open Go.RowKit
set_option linter.unusedVariables false

theorem u8_el : IsElem Tryd.prog 28 5 1 1 := IsElem.mk' Tryd.underlying28 (z := .int .u8 0) (by kernel_rfl) rfl (by omega)
/-- what a call of 'types' gives -/
def TyRes (w : World) (s : List UInt8) (p : Nat) (e : Ending) (w' : World) : Prop :=
  ∃ A c l n, e = .returned (.tuple #[.slice A l.length c, .int .i64 n]) ∧ Hid (Reads w' w'.heap.size 1 A l.length (l.map B)) ∧ TyP s p l n ∧ Below w.heap.size w w' ∧ l.length ≤ s.length
theorem TyRes.no {w w' : World} {s : List UInt8} {p : Nat} (h : NoList s p) (hb : Below w.heap.size w w') : TyRes w s p (.returned (.tuple #[.slice none 0 0, .int .i64 (-1)])) w' :=
  ⟨none, 0, [], -1, rfl, Reads.none_, .inl ⟨rfl, rfl, h⟩, hb, Nat.zero_le _⟩

set_option maxHeartbeats 800000 in
set_option maxRecDepth 100000 in
theorem types_any (s : List UInt8) (p : Nat) (w : World) (hp : p ≤ s.length) (hl : s.length ≤ 400) :
    Calls Tryd.prog 24 #[.string ⟨s.toArray⟩, .int .i64 p] w (TyRes w s p) := by
  by_cases hlt : p < s.length
  · have hget : s[p]? = some s[p] := List.getElem?_eq_getElem hlt
    have hdrop : s.drop p = s[p] :: s.drop (p + 1) := List.drop_eq_getElem_cons hlt
    have hix := fun W => str_at s p .i64 hget W
    generalize s[p] = c at hix hdrop
    clear hget
    by_cases h40 : c.toNat = 40
    · have hc : c = 40 := UInt8.toNat_inj.1 (by rw [h40]; rfl)
      subst hc
      have hinv : s.drop p = 40 :: (preN [] ++ s.drop (p + 1)) := hdrop
      have HINV := hide hinv
      clear hinv hdrop h40
      obtain ⟨base, hbase⟩ : ∃ b, w.heap.size = b := ⟨_, rfl⟩
      have HBA := hide hbase
      clear hbase
      go_enter Tryd.func24, Tryd.ntmps24
      go_wp2_with fail
      have hdec : decide (s.length ≤ p) = false := decide_eq_false (by omega)
      simp only [hdec]
      clear hdec hix
      go_loopw [1, 6] (fun i v w1 => ∃ (k : Nat) (l : List UInt8), i = .int .i64 k ∧ p + 1 + 4 * l.length = k ∧ k ≤ s.length ∧ Hid (s.drop p = 40 :: (preN l ++ s.drop k)) ∧ Hid (∀ t ∈ l, goodT t) ∧ Hid (w1.ownsRow base 5 1 v l.length (l.map B)) ∧ Hid (Below base w w1) ∧ base ≤ w1.heap.size) (fun i _ _ => s.length - (intOf i).toNat)
      case atStart => exact ⟨p + 1, [], rfl, rfl, by omega, HINV.out, (by show ∀ t ∈ ([] : List UInt8), goodT t; simp), own_nil _ _ _ _, Below.refl _ _, by rw [HBA.out]; omega⟩
      case round =>
        obtain ⟨k, l, rfl, hk, hks, hin, HG, ho, hb, hbs⟩ := hrel
        obtain ⟨Av, cv, hv, hc1, hc2⟩ := own_form ho.out
        subst hv
        have hroom : Room l.length 1 1 := room_of (by omega) (by omega)
        by_cases hkl : k < s.length
        · have hget : s[k]? = some s[k] := List.getElem?_eq_getElem hkl
          have hdrop : s.drop k = s[k] :: s.drop (k + 1) := List.drop_eq_getElem_cons hkl
          have hix := fun W => str_at s k .i64 hget W
          generalize s[k] = c at hix hdrop hget
          have hc256 := c.toNat_lt
          by_cases h41c : c.toNat = 41
          · have hcc : c = 41 := UInt8.toNat_inj.1 (by rw [h41c]; rfl)
            subst hcc
            by_cases hl0 : l.length = 0
            · have hl : l = [] := List.eq_nil_of_length_eq_zero hl0
              subst hl
              have hy : s.drop p = listL [] ++ s.drop (k + 1) := by rw [hin.out, hdrop, listL_eq]; rfl
              have HY := hide hy
              clear hin hdrop hget hy HG
              go_wp2_with fail
              go_ret2
              refine ⟨none, 0, [], _, rfl, Reads.none_, .inr ⟨_, by simp, HY.out, ?_⟩, by rw [HBA.out]; exact hb.out, Nat.zero_le _⟩
              rw [listL_eq]
              simp only [joinN, List.length_cons, List.length_nil, List.nil_append] at hk ⊢
              omega
            · have hne : l ≠ [] := fun h => hl0 (by rw [h]; rfl)
              by_cases h4 : k + 4 ≤ s.length
              · obtain ⟨a, b, c3, d, R, hd4, ga, gd, hR⟩ := drop4 h4
                obtain rfl : a = 41 := by rw [hd4] at hdrop; injection hdrop
                have hsl := fun W => str_mid s k (k + 3) .i64 .i64 (by omega) (by omega) W
                have hw : (s.drop k).take (k + 3 - k) = [41, b, c3] := by rw [hd4, show k + 3 - k = 3 by omega]; rfl
                rw [hw] at hsl
                rw [show ((k + 3 : Nat) : Int) = (k : Int) + 3 by omega] at hsl
                have hi := hin.out
                rw [hd4] at hi
                have h5 : [41, b, c3] ≠ ([105, 51, 50] : List UInt8) := by simp
                have h6 : [41, b, c3] ≠ ([105, 54, 52] : List UInt8) := by simp
                have HNO := hide (no_word HG.out hi h5 h6 (fun h => absurd h hne))
                obtain ⟨w3, hw3e⟩ : ∃ w3, [41, b, c3] = w3 := ⟨_, rfl⟩
                rw [hw3e] at hsl h5 h6
                have e5 : (w3 == [105, 51, 50]) = false := beq_eq_false_iff_ne.2 h5
                have e6 : (w3 == [105, 54, 52]) = false := beq_eq_false_iff_ne.2 h6
                clear hin hi hd4 ga gd hR hw hdrop hget h5 h6 hw3e hne
                go_wp2_with fail
                go_ret2
                exact TyRes.no HNO.out (by rw [HBA.out]; exact hb.out)
              · have HNO := hide (no_short HG.out hin.out (by rw [List.length_drop]; omega) (fun h => absurd h hne))
                clear hin hdrop hget hne
                go_wp2_with fail
                go_ret2
                exact TyRes.no HNO.out (by rw [HBA.out]; exact hb.out)
          · have e41c : ((c.toNat : Int) == 41) = false := by simp; omega
            have hc41 : c ≠ 41 := fun h => h41c (by rw [h]; rfl)
            by_cases h4 : k + 4 ≤ s.length
            · obtain ⟨a, b, c3, d, R, hd4, ga, gd, hR⟩ := drop4 h4
              have hsl := fun W => str_mid s k (k + 3) .i64 .i64 (by omega) (by omega) W
              have hw : (s.drop k).take (k + 3 - k) = [a, b, c3] := by rw [hd4, show k + 3 - k = 3 by omega]; rfl
              rw [hw] at hsl
              rw [show ((k + 3 : Nat) : Int) = (k : Int) + 3 by omega] at hsl
              have hid := fun W => str_at s (k + 3) .i64 gd W
              rw [show ((k + 3 : Nat) : Int) = (k : Int) + 4 - 1 by omega] at hid
              have hel : ∀ h, (⟨s.toArray⟩ : ByteArray)[k + 3]'h = d := by
                intro h
                obtain ⟨_, g2⟩ := List.getElem?_eq_some_iff.1 gd
                exact g2
              have hi := hin.out
              rw [hd4] at hi
              have HI := hide hi
              have HR := hide hR
              have HN1 : Hid (l = [] → a ≠ 41) := fun _ e => by
                rw [hd4] at hdrop
                injection hdrop with h0
                exact hc41 (h0.symm.trans e)
              have hd256 := d.toNat_lt
              clear hin hi hdrop hget hd4 ga gd hR hw
              obtain ⟨w3, hw3e⟩ : ∃ w3, [a, b, c3] = w3 := ⟨_, rfl⟩
              rw [hw3e] at hsl
              by_cases h5 : w3 = [105, 51, 50]
              · have e5 : (w3 == [105, 51, 50]) = true := by rw [h5]; rfl
                have hgt : goodT 127 := by unfold goodT; decide
                have hw3 : [a, b, c3] = nameL 127 := hw3e.trans h5
                have hgl : ∀ x ∈ l ++ [127], goodT x := by
                  intro x hx
                  rcases List.mem_append.1 hx with hx | hx
                  · exact HG.out x hx
                  · rw [List.mem_singleton.1 hx]; exact hgt
                have HGL := hide hgl
                clear hgl
                by_cases h41 : d = 41
                · subst h41
                  have HYE := hide (yes_end HG.out hgt HI.out hw3)
                  clear hw3 hgt HI
                  go_wp2_with (at_builtin; refine wpList_push rfl _ _ rfl base u8_el _ l.length (l.map B) rfl wr _ _ rfl ho.out rfl rfl hroom hbs ?_; intro v' w' ho' hg')
                  have hown : Hid (w'.ownsRow base 5 1 v' (l ++ [127]).length ((l ++ [127]).map B)) := by
                    show World.ownsRow _ _ _ _ _ _ _
                    rw [List.map_append, List.length_append]
                    exact ho'
                  obtain ⟨A2, c2, hv, _, _⟩ := own_form hown.out
                  subst hv
                  have hb2 := hb.out.grown hg'.by_ hbs (own_ge ho.out)
                  clear ho' hg'
                  go_ret2
                  refine ⟨A2, c2, l ++ [127], _, rfl, Reads.of_own hown.out, .inr ⟨R, HGL.out, HYE.out.1, ?_⟩, by rw [HBA.out]; exact hb2, by rw [List.length_append, List.length_singleton]; omega⟩
                  rw [HYE.out.2]
                  omega
                · have e41 : ((d.toNat : Int) == 41) = false := by
                    have : d.toNat ≠ 41 := fun h => h41 (UInt8.toNat_inj.1 (by rw [h]; rfl))
                    simp; omega
                  by_cases h44 : d = 44
                  · subst h44
                    have HYS := hide (yes_step HI.out hw3)
                    clear hw3 hgt HI e41 h41
                    go_wp2_with (at_builtin; refine wpList_push rfl _ _ rfl base u8_el _ l.length (l.map B) rfl wr _ _ rfl ho.out rfl rfl hroom hbs ?_; intro v' w' ho' hg')
                    go_roundw
                    case rel =>
                      refine ⟨k + 4, l ++ [127], rfl, by rw [List.length_append, List.length_singleton]; omega, by omega, ?_, HGL.out, ?_, hb.out.grown hg'.by_ hbs (own_ge ho.out), Nat.le_trans hbs hg'.by_.size⟩
                      · show _ = _
                        rw [HYS.out, HR.out]
                      · show World.ownsRow _ _ _ _ _ _ _
                        rw [List.map_append, List.length_append]
                        exact ho'
                    case measure => simp [intOf]; omega
                  · have e44 : ((d.toNat : Int) != 44) = true := by
                      have : d.toNat ≠ 44 := fun h => h44 (UInt8.toNat_inj.1 (by rw [h]; rfl))
                      simp; omega
                    have HNO := hide (no_end HG.out HI.out h44 h41 HN1.out)
                    clear hw3 hgt HI h41 h44
                    go_wp2_with (at_builtin; refine wpList_push rfl _ _ rfl base u8_el _ l.length (l.map B) rfl wr _ _ rfl ho.out rfl rfl hroom hbs ?_; intro v' w' ho' hg')
                    have hb2 := hb.out.grown hg'.by_ hbs (own_ge ho.out)
                    go_ret2
                    exact TyRes.no HNO.out (by rw [HBA.out]; exact hb2)
              · have e5 : (w3 == [105, 51, 50]) = false := beq_eq_false_iff_ne.2 h5
                by_cases h6 : w3 = [105, 54, 52]
                · have e6 : (w3 == [105, 54, 52]) = true := by rw [h6]; rfl
                  have hgt : goodT 126 := by unfold goodT; decide
                  have hw3 : [a, b, c3] = nameL 126 := hw3e.trans h6
                  have hgl : ∀ x ∈ l ++ [126], goodT x := by
                    intro x hx
                    rcases List.mem_append.1 hx with hx | hx
                    · exact HG.out x hx
                    · rw [List.mem_singleton.1 hx]; exact hgt
                  have HGL := hide hgl
                  clear hgl
                  by_cases h41 : d = 41
                  · subst h41
                    have HYE := hide (yes_end HG.out hgt HI.out hw3)
                    clear hw3 hgt HI
                    go_wp2_with (at_builtin; refine wpList_push rfl _ _ rfl base u8_el _ l.length (l.map B) rfl wr _ _ rfl ho.out rfl rfl hroom hbs ?_; intro v' w' ho' hg')
                    have hown : Hid (w'.ownsRow base 5 1 v' (l ++ [126]).length ((l ++ [126]).map B)) := by
                      show World.ownsRow _ _ _ _ _ _ _
                      rw [List.map_append, List.length_append]
                      exact ho'
                    obtain ⟨A2, c2, hv, _, _⟩ := own_form hown.out
                    subst hv
                    have hb2 := hb.out.grown hg'.by_ hbs (own_ge ho.out)
                    clear ho' hg'
                    go_ret2
                    refine ⟨A2, c2, l ++ [126], _, rfl, Reads.of_own hown.out, .inr ⟨R, HGL.out, HYE.out.1, ?_⟩, by rw [HBA.out]; exact hb2, by rw [List.length_append, List.length_singleton]; omega⟩
                    rw [HYE.out.2]
                    omega
                  · have e41 : ((d.toNat : Int) == 41) = false := by
                      have : d.toNat ≠ 41 := fun h => h41 (UInt8.toNat_inj.1 (by rw [h]; rfl))
                      simp; omega
                    by_cases h44 : d = 44
                    · subst h44
                      have HYS := hide (yes_step HI.out hw3)
                      clear hw3 hgt HI e41 h41
                      go_wp2_with (at_builtin; refine wpList_push rfl _ _ rfl base u8_el _ l.length (l.map B) rfl wr _ _ rfl ho.out rfl rfl hroom hbs ?_; intro v' w' ho' hg')
                      go_roundw
                      case rel =>
                        refine ⟨k + 4, l ++ [126], rfl, by rw [List.length_append, List.length_singleton]; omega, by omega, ?_, HGL.out, ?_, hb.out.grown hg'.by_ hbs (own_ge ho.out), Nat.le_trans hbs hg'.by_.size⟩
                        · show _ = _
                          rw [HYS.out, HR.out]
                        · show World.ownsRow _ _ _ _ _ _ _
                          rw [List.map_append, List.length_append]
                          exact ho'
                      case measure => simp [intOf]; omega
                    · have e44 : ((d.toNat : Int) != 44) = true := by
                        have : d.toNat ≠ 44 := fun h => h44 (UInt8.toNat_inj.1 (by rw [h]; rfl))
                        simp; omega
                      have HNO := hide (no_end HG.out HI.out h44 h41 HN1.out)
                      clear hw3 hgt HI h41 h44
                      go_wp2_with (at_builtin; refine wpList_push rfl _ _ rfl base u8_el _ l.length (l.map B) rfl wr _ _ rfl ho.out rfl rfl hroom hbs ?_; intro v' w' ho' hg')
                      have hb2 := hb.out.grown hg'.by_ hbs (own_ge ho.out)
                      go_ret2
                      exact TyRes.no HNO.out (by rw [HBA.out]; exact hb2)
                · have e6 : (w3 == [105, 54, 52]) = false := beq_eq_false_iff_ne.2 h6
                  have HNO := hide (no_word HG.out HI.out (by rw [hw3e]; exact h5) (by rw [hw3e]; exact h6) HN1.out)
                  clear h5 h6 hw3e HI
                  go_wp2_with fail
                  go_ret2
                  exact TyRes.no HNO.out (by rw [HBA.out]; exact hb.out)
            · have HNO := hide (no_short HG.out hin.out (by rw [List.length_drop]; omega) (fun _ rest e => by rw [hdrop] at e; injection e with e; exact hc41 e))
              clear hin hdrop hget
              go_wp2_with fail
              go_ret2
              exact TyRes.no HNO.out (by rw [HBA.out]; exact hb.out)
        · have HNO := hide (no_short HG.out hin.out (by rw [List.length_drop]; omega) (fun _ rest e => by rw [List.drop_eq_nil_of_le (by omega)] at e; cases e))
          clear hin
          go_wp2_with fail
          go_ret2
          exact TyRes.no HNO.out (by rw [HBA.out]; exact hb.out)
    · have e1 : ((c.toNat : Int) != 40) = true := by simp; omega
      have HNO := hide (no_head (s := s) (p := p) (fun R e => by rw [hdrop] at e; injection e with e; rw [e] at h40; exact h40 rfl))
      clear hdrop h40
      go_enter Tryd.func24, Tryd.ntmps24
      go_wp2_with fail
      go_ret2
      exact TyRes.no HNO.out (Below.refl _ _)
  · have HNO := hide (no_head (s := s) (p := p) (fun R e => by rw [List.drop_eq_nil_of_le (by omega)] at e; cases e))
    go_enter Tryd.func24, Tryd.ntmps24
    go_wp2_with fail
    go_ret2
    exact TyRes.no HNO.out (Below.refl _ _)
end Go.Proofs.YtgohojbgcjiebaaDoor
