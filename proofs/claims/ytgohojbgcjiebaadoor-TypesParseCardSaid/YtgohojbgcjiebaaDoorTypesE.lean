/-
  types: the law's own functions, and the document's texts: contracts.
-/
import Derived.Test.YtgohojbgcjiebaaDoorTypesLaw
import Derived.Test.YtgohojbgcjiebaaDoorArgs
namespace Go.Proofs.YtgohojbgcjiebaaDoor
open Go.RowKit
set_option linter.unusedVariables false

set_option maxHeartbeats 400000 in
theorem rname_any (t : UInt8) (w : World) : Calls Tryd.prog 8 #[.int .u8 t.toNat] w fun e w' => e = .returned (.string ⟨(nameL t).toArray⟩) ∧ w = w' := by
  unfold nameL
  have h256 := t.toNat_lt
  generalize t.toNat = n at *
  by_cases h1 : n = 127
  · subst h1
    go_enter Tryd.func8, Tryd.ntmps8
    go_wp2_with fail
    go_ret
    exact ⟨rfl, rfl⟩
  · by_cases h2 : n = 126
    · subst h2
      go_enter Tryd.func8, Tryd.ntmps8
      go_wp2_with fail
      go_ret
      exact ⟨rfl, rfl⟩
    · rw [if_neg h1, if_neg h2]
      have e1 : ((n : Int) == 127) = false := by simp; omega
      have e2 : ((n : Int) == 126) = false := by simp; omega
      clear h1 h2
      go_enter Tryd.func8, Tryd.ntmps8
      go_wp2_with fail
      go_ret
      exact ⟨rfl, rfl⟩

theorem joinN_snoc (t : UInt8) : ∀ l : List UInt8, joinN (l ++ [t]) = if l = [] then nameL t else joinN l ++ (44 :: nameL t)
  | [] => rfl
  | [u] => by simp [joinN]
  | u :: v :: r => by
    have := joinN_snoc t (v :: r)
    rw [if_neg (by simp)] at this ⊢
    rw [List.cons_append, List.cons_append, joinN, ← List.cons_append, this, joinN]
    simp
theorem joinN_len (ts : List UInt8) : (joinN ts).length ≤ 4 * ts.length := by
  rw [← join_joinN]
  have h := join_len (ts.map nameL) (fun x hx => by obtain ⟨t, _, rfl⟩ := List.mem_map.1 hx; exact nameL_len t)
  rw [List.length_map] at h
  exact h

set_option maxHeartbeats 1600000 in
theorem rlist_any (A : Option Addr) (cap : Nat) (ts : List UInt8) (w : World) (hr : Hid (Reads w w.heap.size 1 A ts.length (ts.map B))) (hl : ts.length ≤ 1000) :
    Calls Tryd.prog 16 #[.slice A ts.length cap] w fun e w' => e = .returned (.string ⟨(listL ts).toArray⟩) ∧ w = w' := by
  go_enter Tryd.func16, Tryd.ntmps16
  go_wp2_with fail
  go_loop [3, 4] (fun s i => ∃ (k : Nat) (x : List UInt8), i = .int .i64 k ∧ s = .string ⟨(40 :: x).toArray⟩ ∧ k ≤ ts.length ∧ x.length ≤ 4 * k ∧ Hid (x = joinN (ts.take k))) (fun _ i => ts.length - (intOf i).toNat)
  case atStart => exact ⟨0, [], rfl, rfl, by omega, by simp, by show _ = _; simp [joinN]⟩
  case round =>
    obtain ⟨k, x, rfl, rfl, hk, hxl, hx⟩ := hrel
    by_cases hlt : k < ts.length
    · obtain ⟨ad, c, rfl, hc, hcell, hc0, hc1⟩ := hr.out.byte (k := k) hlt
      have hst : ts.take (k + 1) = ts.take k ++ [c] := by rw [List.take_add_one, hc.out]; rfl
      have hsn := joinN_snoc c (ts.take k)
      rw [← hst] at hsn
      have HN := hide (fun W => rname_any c W)
      have hnl := nameL_len c
      obtain ⟨nm, hnm⟩ : ∃ q, nameL c = q := ⟨_, rfl⟩
      rw [hnm] at HN hnl hsn
      have HSN := hide hsn
      clear hst hsn hnm
      by_cases hk0 : k = 0
      · subst hk0
        have hcell2 : w.cell? ad = some (.int .u8 (c.toNat : Int)) := hcell
        have hx0 : x = [] := by have := hx.out; simpa [joinN] using this
        subst hx0
        have hs2 : (⟨#[40]⟩ : ByteArray) ++ ⟨nm.toArray⟩ = ⟨(40 :: nm).toArray⟩ := str_cat [40] nm
        go_wp2_with fail
        refine (HN.out _).mono ?_; rintro e w' ⟨rfl, rfl⟩
        go_wp2_with fail
        go_round
        case rel =>
          refine ⟨1, nm, by go_num, rfl, by omega, by omega, ?_⟩
          show _ = _
          have := HSN.out
          rw [if_pos (by simp)] at this
          exact this.symm
        case measure => simp [intOf] <;> omega
      · have hkp : (0 : Int) < (k : Int) := by omega
        have hlen2 : Hid ((x ++ [44] ++ nm).length ≤ 4 * (k + 1)) := by show _ ≤ _; simp only [List.length_append, List.length_cons, List.length_nil]; omega
        have hs1 : (⟨(40 :: x).toArray⟩ : ByteArray) ++ ⟨#[44]⟩ = ⟨(40 :: (x ++ [44])).toArray⟩ := str_cat (40 :: x) [44]
        have hs2 : (⟨(40 :: (x ++ [44])).toArray⟩ : ByteArray) ++ ⟨nm.toArray⟩ = ⟨(40 :: (x ++ [44] ++ nm)).toArray⟩ := str_cat (40 :: (x ++ [44])) nm
        have hz1 : (⟨(40 :: x).toArray⟩ : ByteArray).size = x.length + 1 := rfl
        go_wp2_with fail
        refine (HN.out _).mono ?_; rintro e w' ⟨rfl, rfl⟩
        go_wp2_with fail
        go_round
        case rel =>
          refine ⟨k + 1, x ++ [44] ++ nm, by go_num, by simp, by omega, hlen2.out, ?_⟩
          show _ = _
          have := HSN.out
          rw [if_neg (by intro h; have h2 := congrArg List.length h; rw [List.length_take, List.length_nil] at h2; omega), ← hx.out] at this
          rw [this]
          simp
        case measure => simp [intOf] <;> omega
    · have hkn : k = ts.length := by omega
      subst hkn
      have hfin := hx.out
      rw [List.take_length] at hfin
      have HFI := hide (listL_eq ts)
      have HX := hide hfin
      have hs1 : (⟨(40 :: x).toArray⟩ : ByteArray) ++ ⟨#[41]⟩ = ⟨(40 :: (x ++ [41])).toArray⟩ := str_cat (40 :: x) [41]
      clear hlt hfin hx
      go_wp2_with fail
      go_ret
      refine ⟨?_, rfl⟩
      rw [HFI.out, ← HX.out]
      rfl

set_option maxHeartbeats 800000 in
theorem to_any (A : Option Addr) (cap : Nat) (ts : List UInt8) (w : World) (hr : Hid (Reads w w.heap.size 1 A ts.length (ts.map B))) (hl : ts.length ≤ 1000) :
    Calls Tryd.prog 11 #[.slice A ts.length cap] w fun e w' => ∃ A2 c2, e = .returned (.slice A2 ts.length c2) ∧ Hid (Reads w' w'.heap.size 1 A2 ts.length (ts.map B)) ∧ Below w.heap.size w w' := by
  obtain ⟨base, hbase⟩ : ∃ b, w.heap.size = b := ⟨_, rfl⟩
  have HBA := hide hbase
  rw [hbase] at hr
  clear hbase
  go_enter Tryd.func11, Tryd.ntmps11
  go_wp2_with fail
  go_loopw [3, 4] (fun v i w1 => ∃ k : Nat, i = .int .i64 k ∧ k ≤ ts.length ∧ Hid (w1.ownsRow base 23 1 v k ((ts.take k).map B)) ∧ Hid (Below base w w1) ∧ base ≤ w1.heap.size) (fun _ i _ => ts.length - (intOf i).toNat)
  case atStart => exact ⟨0, rfl, by omega, own_nil _ _ _ _, Below.refl _ _, by rw [HBA.out]; omega⟩
  case round =>
    obtain ⟨k, rfl, hk, ho, hb, hbs⟩ := hrel
    by_cases hlt : k < ts.length
    · have hrk : Reads wr base 1 A ts.length (ts.map B) := hr.out.below hb.out
      obtain ⟨ad, c, rfl, hc, hcell, hc0, hc1⟩ := hrk.byte (k := k) hlt
      have hst : ts.take (k + 1) = ts.take k ++ [c] := by rw [List.take_add_one, hc.out]; rfl
      have HST := hide hst
      have hroom : Room k 1 1 := room_of (by omega) (by omega)
      clear hrk hst
      go_wp2_with (at_builtin; refine wpList_push rfl _ _ rfl base ty_elem _ k ((ts.take k).map B) rfl wr _ _ rfl ho.out rfl rfl hroom hbs ?_; intro v' w' ho' hg')
      go_roundw
      case rel =>
        refine ⟨k + 1, by go_num, by omega, ?_, hb.out.grown hg'.by_ hbs (own_ge ho.out), Nat.le_trans hbs hg'.by_.size⟩
        show World.ownsRow _ _ _ _ _ _ _
        rw [HST.out, List.map_append, List.map_singleton]
        exact ho'
      case measure => simp [intOf] <;> omega
    · have hkn : k = ts.length := by omega
      subst hkn
      have hfull := ho.out
      rw [List.take_length] at hfull
      obtain ⟨A2, c2, hv, hc2, _⟩ := own_form hfull
      subst hv
      have HF := hide hfull
      clear hlt hfull ho
      go_wp2_with fail
      go_ret
      exact ⟨A2, c2, rfl, Reads.of_own HF.out, by rw [HBA.out]; exact hb.out⟩

set_option maxHeartbeats 800000 in
theorem lright_any (A : Option Addr) (cap : Nat) (ts : List UInt8) (w : World) (hr : Hid (Reads w w.heap.size 1 A ts.length (ts.map B))) (hl : ts.length ≤ 1000) :
    Calls Tryd.prog 12 #[.slice A ts.length cap] w fun e w' => e = .returned (.bool (fewT ts)) ∧ w = w' := by
  go_enter Tryd.func12, Tryd.ntmps12
  go_wp2_with fail
  go_loop [3] (fun i => ∃ k : Nat, i = .int .i64 k ∧ k ≤ ts.length ∧ Hid ((ts.take k).any badT = false)) (fun i => ts.length - (intOf i).toNat)
  case atStart => exact ⟨0, rfl, by omega, by show _ = _; simp⟩
  case round =>
    obtain ⟨k, rfl, hk, hin⟩ := hrel
    by_cases hlt : k < ts.length
    · obtain ⟨ad, c, rfl, hc, hcell, hc0, hc1⟩ := hr.out.byte (k := k) hlt
      have hst : ts.take (k + 1) = ts.take k ++ [c] := by rw [List.take_add_one, hc.out]; rfl
      have hany : (ts.take (k + 1)).any badT = badT c := by rw [hst, List.any_append, hin.out]; simp
      have HANY := hide hany
      have HHC := hide (List.mem_of_getElem? hc.out)
      clear hst hany
      by_cases h6 : c.toNat = 126
      · have e1 : ((c.toNat : Int) != 126) = false := by rw [h6]; rfl
        have hg : badT c = false := by unfold badT; simp [h6]
        have HG := hide hg
        clear h6 hg
        go_wp2_with fail
        go_round
        case rel => exact ⟨k + 1, by go_num, by omega, by show _ = _; rw [HANY.out, HG.out]⟩
        case measure => simp [intOf] <;> omega
      · have e1 : ((c.toNat : Int) != 126) = true := by simp; omega
        by_cases h7 : c.toNat = 127
        · have e2 : ((c.toNat : Int) != 127) = false := by rw [h7]; rfl
          have hg : badT c = false := by unfold badT; simp [h7]
          have HG := hide hg
          clear h6 h7 hg
          go_wp2_with fail
          go_round
          case rel => exact ⟨k + 1, by go_num, by omega, by show _ = _; rw [HANY.out, HG.out]⟩
          case measure => simp [intOf] <;> omega
        · have e2 : ((c.toNat : Int) != 127) = true := by simp; omega
          have hg : badT c = true := by unfold badT; simp [h6, h7]
          have hf : fewT ts = false := by
            unfold fewT
            rw [List.any_eq_true.2 ⟨c, HHC.out, hg⟩]
            simp
          have HF := hide hf
          clear h6 h7 hg hf
          go_wp2_with fail
          go_ret
          exact ⟨by rw [HF.out]; rfl, rfl⟩
    · have hkn : k = ts.length := by omega
      subst hkn
      have hfin := hin.out
      rw [List.take_length] at hfin
      have hf : fewT ts = decide (ts.length ≤ 20) := by unfold fewT; rw [hfin]; simp
      have HF := hide hf
      by_cases h20 : ts.length ≤ 20
      · have h21 : (ts.length : Int) ≤ 20 := by omega
        have HD := hide (decide_eq_true h20)
        clear hlt hfin hin hf h20
        go_wp2_with fail
        go_ret
        exact ⟨by rw [HF.out, HD.out]; rfl, rfl⟩
      · have h21 : decide ((ts.length : Int) ≤ 20) = false := decide_eq_false (by omega)
        have HD := hide (decide_eq_false h20)
        clear hlt hfin hin hf h20
        go_wp2_with fail
        go_ret
        exact ⟨by rw [HF.out, HD.out]; rfl, rfl⟩
end Go.Proofs.YtgohojbgcjiebaaDoor
