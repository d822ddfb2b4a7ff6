/-
  types: what functions take and give: contracts.
-/
import Derived.Test.YthpnfdbfdbjpcaaDoorRows
import Derived.Test.YthpnfdbfdbjpcaaDoorMem
import Derived.Test.YthpnfdbfdbjpcaaDoorWords
import Derived.Maps.RangeWalk
import Derived.Deep.DeepCutAuto
import Derived.IntWalk
import Derived.Outline
namespace Go.Proofs.YthpnfdbfdbjpcaaDoor
open Go.RowKit
set_option linter.unusedVariables false

def nameL (t : UInt8) : List UInt8 := if t.toNat = 127 then [105, 51, 50] else if t.toNat = 126 then [105, 54, 52] else [63]
def bitsV (t : UInt8) : Int := if t.toNat = 127 then 32 else if t.toNat = 126 then 64 else 0
def badT (t : UInt8) : Bool := decide (t.toNat ≠ 127) && decide (t.toNat ≠ 126)

set_option maxHeartbeats 400000 in
theorem tname_any (t : UInt8) (w : World) : Calls Tryd.prog 20 #[.int .u8 t.toNat] w fun e w' => e = .returned (.string ⟨(nameL t).toArray⟩) ∧ w = w' := by
  unfold nameL
  have h256 := t.toNat_lt
  generalize t.toNat = n at *
  by_cases h1 : n = 127
  · subst h1
    go_enter Tryd.func20, Tryd.ntmps20
    go_wp2_with fail
    go_ret
    exact ⟨rfl, rfl⟩
  · by_cases h2 : n = 126
    · subst h2
      go_enter Tryd.func20, Tryd.ntmps20
      go_wp2_with fail
      go_ret
      exact ⟨rfl, rfl⟩
    · rw [if_neg h1, if_neg h2]
      have e1 : ((n : Int) == 127) = false := by simp; omega
      have e2 : ((n : Int) == 126) = false := by simp; omega
      clear h1 h2
      go_enter Tryd.func20, Tryd.ntmps20
      go_wp2_with fail
      go_ret
      exact ⟨rfl, rfl⟩
set_option maxHeartbeats 400000 in
theorem tbits_any (t : UInt8) (w : World) : Calls Tryd.prog 13 #[.int .u8 t.toNat] w fun e w' => e = .returned (.int .i64 (bitsV t)) ∧ w = w' := by
  unfold bitsV
  have h256 := t.toNat_lt
  generalize t.toNat = n at *
  by_cases h1 : n = 127
  · subst h1
    go_enter Tryd.func13, Tryd.ntmps13
    go_wp2_with fail
    go_ret
    exact ⟨rfl, rfl⟩
  · by_cases h2 : n = 126
    · subst h2
      go_enter Tryd.func13, Tryd.ntmps13
      go_wp2_with fail
      go_ret
      exact ⟨rfl, rfl⟩
    · rw [if_neg h1, if_neg h2]
      have e1 : ((n : Int) == 127) = false := by simp; omega
      have e2 : ((n : Int) == 126) = false := by simp; omega
      clear h1 h2
      go_enter Tryd.func13, Tryd.ntmps13
      go_wp2_with fail
      go_ret
      exact ⟨rfl, rfl⟩
theorem badT_bits (t : UInt8) : (bitsV t == 0) = badT t := by
  unfold bitsV badT
  by_cases h1 : t.toNat = 127
  · simp [h1]
  · by_cases h2 : t.toNat = 126
    · simp [h2]
    · simp [h1, h2]
set_option maxHeartbeats 400000 in
theorem few1_any (t : UInt8) (w : World) : Calls Tryd.prog 52 #[.int .u8 t.toNat] w fun e w' => e = .returned (.bool (badT t)) ∧ w = w' := by
  have hb := badT_bits t
  have H := hide (tbits_any t w)
  generalize bitsV t = x at H hb
  generalize badT t = q at *
  go_enter Tryd.func52, Tryd.ntmps52
  go_wp2_with fail
  refine H.out.mono ?_; rintro e w' ⟨rfl, rfl⟩
  go_wp2_with fail
  go_ret
  exact ⟨rfl, rfl⟩

abbrev IXF : Nat := 73
set_option maxHeartbeats 800000 in
theorem indexFunc_any (A : Option Addr) (cap : Nat) (ts : List UInt8) (w : World) (hr : Hid (Reads w w.heap.size 1 A ts.length (ts.map B))) (hl : ts.length ≤ 1000) :
    Calls Tryd.prog 73 #[.slice A ts.length cap, .func (.func 52) #[] #[]] w fun e w' => ∃ i : Int, e = .returned (.int .i64 i) ∧ -1 ≤ i ∧ decide (0 ≤ i) = ts.any badT ∧ w = w' := by
  go_enter Tryd.func73, Tryd.ntmps73
  go_wp2_with fail
  go_loop [5, 8] (fun _ i => ∃ k : Nat, i = .int .i64 k ∧ k ≤ ts.length ∧ Hid ((ts.take k).any badT = false)) (fun _ i => ts.length - (intOf i).toNat)
  case atStart => exact ⟨0, rfl, by omega, by show _ = _; simp⟩
  case round =>
    obtain ⟨k, rfl, hk, hin⟩ := hrel
    by_cases hlt : k < ts.length
    · obtain ⟨ad, c, rfl, hc, hcell, hc0, hc1⟩ := hr.out.byte (k := k) hlt
      have hst : ts.take (k + 1) = ts.take k ++ [c] := by rw [List.take_add_one, hc.out]; rfl
      have HST := hide hst
      have HF := hide (few1_any c w)
      clear hst
      obtain ⟨q, hq⟩ : ∃ q, badT c = q := ⟨_, rfl⟩
      rw [hq] at HF
      have HQ := hide hq
      clear hq
      cases q with
      | true =>
        go_wp2_with fail
        refine HF.out.mono ?_; rintro e w' ⟨rfl, rfl⟩
        go_wp2_with fail
        go_ret
        refine ⟨k, rfl, by omega, ?_, rfl⟩
        rw [decide_eq_true (by omega)]
        symm
        rw [List.any_eq_true]
        exact ⟨c, List.mem_of_getElem? hc.out, HQ.out⟩
      | false =>
        go_wp2_with fail
        refine HF.out.mono ?_; rintro e w' ⟨rfl, rfl⟩
        go_wp2_with fail
        go_round
        case rel =>
          refine ⟨k + 1, by go_num, by omega, ?_⟩
          show _ = _
          rw [HST.out, List.any_append, hin.out]
          simp [HQ.out]
        case measure => simp [intOf] <;> omega
    · have hkk : k = ts.length := by omega
      subst hkk
      have hfin := hin.out
      rw [List.take_length] at hfin
      have HFI := hide hfin
      clear hlt hfin hin
      go_wp2_with fail
      go_ret
      exact ⟨-1, rfl, by omega, by rw [HFI.out]; rfl, rfl⟩

set_option maxHeartbeats 400000 in
theorem containsFunc_any (A : Option Addr) (cap : Nat) (ts : List UInt8) (w : World) (hr : Hid (Reads w w.heap.size 1 A ts.length (ts.map B))) (hl : ts.length ≤ 1000) :
    Calls Tryd.prog 51 #[.slice A ts.length cap, .func (.func 52) #[] #[]] w fun e w' => e = .returned (.bool (ts.any badT)) ∧ w = w' := by
  have H := hide (indexFunc_any A cap ts w hr hl)
  go_enter Tryd.func51, Tryd.ntmps51
  go_wp2_with fail
  refine H.out.mono ?_; rintro e w' ⟨i, rfl, hi, hd, rfl⟩
  have HD := hide hd
  clear hd
  go_wp2_with fail
  go_ret
  exact ⟨by rw [← HD.out]; rfl, rfl⟩

def fewT (ts : List UInt8) : Bool := decide (ts.length ≤ 20) && !ts.any badT
set_option maxHeartbeats 800000 in
theorem few_any (A : Option Addr) (cap : Nat) (ts : List UInt8) (w : World) (hr : Hid (Reads w w.heap.size 1 A ts.length (ts.map B))) (hl : ts.length ≤ 1000) :
    Calls Tryd.prog 32 #[.slice A ts.length cap] w fun e w' => e = .returned (.bool (fewT ts)) ∧ w = w' := by
  have H := hide (containsFunc_any A cap ts w hr hl)
  unfold fewT
  by_cases h : ts.length ≤ 20
  · rw [decide_eq_true h]
    generalize ts.any badT = q at H ⊢
    go_enter Tryd.func32, Tryd.ntmps32
    go_wp2_with fail
    refine H.out.mono ?_; rintro e w' ⟨rfl, rfl⟩
    go_wp2_with fail
    go_ret
    exact ⟨by simp, rfl⟩
  · rw [decide_eq_false h]
    have h2 : 20 < ts.length := by omega
    clear h
    go_enter Tryd.func32, Tryd.ntmps32
    go_wp2_with fail
    go_ret
    exact ⟨by simp, rfl⟩

/-- two rows of types: a signature's value, and what it holds -/
structure SigIs (w : World) (v : Value) (ps rs : List UInt8) : Prop where
  ex : ∃ A1 c1 A2 c2, v = .agg #[.slice A1 ps.length c1, .slice A2 rs.length c2] ∧ Hid (Reads w w.heap.size 1 A1 ps.length (ps.map B)) ∧ Hid (Reads w w.heap.size 1 A2 rs.length (rs.map B))
theorem SigIs.below {w w' : World} {v : Value} {ps rs : List UInt8} (h : SigIs w v ps rs) (hb : Below w.heap.size w w') : SigIs w' v ps rs := by
  obtain ⟨A1, c1, A2, c2, e, h1, h2⟩ := h.ex
  exact ⟨A1, c1, A2, c2, e, (h1.out.below hb).more hb.size, (h2.out.below hb).more hb.size⟩

set_option maxHeartbeats 800000 in
theorem right_any (v : Value) (ps rs : List UInt8) (w : World) (hv : Hid (SigIs w v ps rs)) (h1 : ps.length ≤ 1000) (h2 : rs.length ≤ 1000) :
    Calls Tryd.prog 24 #[v] w fun e w' => e = .returned (.bool (fewT ps && fewT rs)) ∧ Below w.heap.size w w' := by
  obtain ⟨A1, c1, A2, c2, rfl, r1, r2⟩ := hv.out.ex
  have HF1 := hide (fun W (h : Below w.heap.size w W) => few_any A1 c1 ps W ((r1.out.below h).more h.size) h1)
  have HF2 := hide (fun W (h : Below w.heap.size w W) => few_any A2 c2 rs W ((r2.out.below h).more h.size) h2)
  generalize ps.length = n1 at *
  generalize rs.length = n2 at *
  generalize fewT ps = q1 at *
  generalize fewT rs = q2 at *
  go_enter Tryd.func24, Tryd.ntmps24
  go_wp2_with fail
  refine (HF1.out _ ((Below.refl _ _).alloc (Nat.le_refl _) _)).mono ?_; rintro e w' ⟨rfl, rfl⟩
  cases q1 with
  | true =>
    go_wp2_with fail
    refine (HF2.out _ ((Below.refl _ _).alloc (Nat.le_refl _) _)).mono ?_; rintro e w' ⟨rfl, rfl⟩
    go_wp2_with fail
    go_ret
    exact ⟨by simp, (Below.refl _ _).alloc (Nat.le_refl _) _⟩
  | false =>
    go_wp2_with fail
    go_ret
    exact ⟨by simp, (Below.refl _ _).alloc (Nat.le_refl _) _⟩
end Go.Proofs.YthpnfdbfdbjpcaaDoor
