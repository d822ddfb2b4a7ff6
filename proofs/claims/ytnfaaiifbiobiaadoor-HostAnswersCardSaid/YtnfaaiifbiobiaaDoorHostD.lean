/-
  host: a host in memory; its rule for an import; how often it was asked: contracts.
-/
import Derived.Test.YtnfaaiifbiobiaaDoorHostC
import Derived.Test.YtnfaaiifbiobiaaDoorTBits
import Derived.Test.YtnfaaiifbiobiaaDoorCut
import Derived.Laws.LoneSync
namespace Go.Proofs.YtnfaaiifbiobiaaDoor
open Go.RowKit
set_option linter.unusedVariables false

def I (n : Nat) : Value := .int .i64 (n : Int)
/-- a host in memory: 'hb' its own block, 'ga' the counts', 'Al' where its rules lie -/
structure HO (w : World) (hb ga : Nat) (Al : Option Addr) (n cl : Nat) (rs : List HR) (qs : List Nat) : Prop where
  blk : w.heap[hb]? = some (.cells #[.slice Al n cl, .slice (some ⟨ga, 0, none⟩) n n] 60 (0, 0))
  rules : Reads w w.heap.size 4 Al n (rs.flatMap hrV)
  asked : w.heap[ga]? = some (.cells (qs.map I).toArray 67 (0, 0))
  len : rs.length = n
  al : qs.length = n
  few : n ≤ 30
  ne : hb ≠ ga
  apart : ∀ ad, Al = some ad → ad.block ≠ ga
theorem Reads.only {w w' : World} {Bk size n : Nat} {A : Option Addr} {xs : List Value} {S : List Nat} (h : Reads w Bk size A n xs) (ho : Only S w w') (hS : ∀ ad, A = some ad → ad.block ∉ S) : Reads w' Bk size A n xs :=
  ⟨h.1, fun hn => by
    obtain ⟨ad, e, hb, hc⟩ := h.2 hn
    exact ⟨ad, e, hb, fun j u hu => ho.cell_some (hc j u hu) (by rw [block_of_add]; exact hS ad e)⟩⟩
theorem HO.only {w w' : World} {hb ga : Nat} {Al : Option Addr} {n cl : Nat} {rs : List HR} {qs : List Nat} {S : List Nat} (h : HO w hb ga Al n cl rs qs) (ho : Only S w w') (h1 : hb ∉ S) (h2 : ga ∉ S) (h3 : ∀ ad, Al = some ad → ad.block ∉ S) : HO w' hb ga Al n cl rs qs :=
  ⟨(ho.block hb (blk_lt h.blk) h1).trans h.blk, (h.rules.only ho h3).more ho.size, (ho.block ga (blk_lt h.asked) h2).trans h.asked, h.len, h.al, h.few, h.ne, h.apart⟩
theorem HO.below {w w' : World} {hb ga : Nat} {Al : Option Addr} {n cl : Nat} {rs : List HR} {qs : List Nat} (h : HO w hb ga Al n cl rs qs) (hb' : Below w.heap.size w w') : HO w' hb ga Al n cl rs qs :=
  h.only (S := []) (Only.of_below hb') (by simp) (by simp) (by simp)
/-- a count is written -/
theorem HO.count {w : World} {hb ga : Nat} {Al : Option Addr} {n cl : Nat} {rs : List HR} {qs : List Nat} (h : HO w hb ga Al n cl rs qs) (k v : Nat) : HO (w.setCell ⟨ga, k, none⟩ (I v)) hb ga Al n cl rs (qs.set k v) := by
  have ho := Only.setCell (S := [ga]) w (p := ⟨ga, k, none⟩) (by simp) (I v)
  refine ⟨(ho.block hb (blk_lt h.blk) (by simp [h.ne])).trans h.blk, (h.rules.only ho (fun ad e => by simp [h.apart ad e])).more ho.size, ?_, h.len, by rw [List.length_set]; exact h.al, h.few, h.ne, h.apart⟩
  rw [setCell_blk h.asked]
  congr 2
  apply Array.ext'
  simp [List.map_set]
theorem HO.count_at {w : World} {hb ga : Nat} {Al : Option Addr} {n cl : Nat} {rs : List HR} {qs : List Nat} (h : HO w hb ga Al n cl rs qs) {k v : Nat} (hk : qs[k]? = some v) : w.cell? ⟨ga, k, none⟩ = some (.int .i64 (v : Int)) := by
  rw [cell_blk h.asked]
  simp [I, hk]

set_option maxHeartbeats 800000 in
theorem add_one (ga k : Nat) (x : Nat) (w : World) (hc : w.cell? ⟨ga, k, none⟩ = some (.int .i64 (x : Int))) (hz : w.frozen? ⟨ga, k, none⟩ = false) (hx : x ≤ 1000000) :
    Calls Tryd.prog 23 #[.pointer (some ⟨ga, k, none⟩), .int .i64 1] w fun e w' => e = .returned (.int .i64 ((x + 1 : Nat) : Int)) ∧ w' = w.setCell ⟨ga, k, none⟩ (I (x + 1)) := by
  have hadd := run_call_add (P := Tryd.prog) Tryd.func34 (by kernel_rfl) (by kernel_rfl) (by kernel_rfl) .i64 (by kernel_rfl) (y := 1) (s := ((x + 1 : Nat) : Int)) hc hz (by
    simp only [go_sem]
    rw [IntWalk.i64_in _ (by omega)]
    simp)
  go_enter Tryd.func23, Tryd.ntmps23
  go_wp2_with fail
  go_ret
  exact ⟨rfl, rfl⟩
set_option maxHeartbeats 800000 in
theorem load_one (ga k : Nat) (x : Nat) (w : World) (hc : w.cell? ⟨ga, k, none⟩ = some (.int .i64 (x : Int))) :
    Calls Tryd.prog 27 #[.pointer (some ⟨ga, k, none⟩)] w fun e w' => e = .returned (.int .i64 (x : Int)) ∧ w = w' := by
  have hld := run_call_load (P := Tryd.prog) Tryd.func35 (by kernel_rfl) (by kernel_rfl) (by kernel_rfl) .i64 (by kernel_rfl) hc
  go_enter Tryd.func27, Tryd.ntmps27
  go_wp2_with fail
  go_ret
  exact ⟨rfl, rfl⟩

set_option maxHeartbeats 800000 in
theorem asked_in (hb ga : Nat) (Al : Option Addr) (n cl : Nat) (rs : List HR) (qs : List Nat) (k v : Nat) (w : World) (h : Hid (HO w hb ga Al n cl rs qs)) (hk : Hid (qs[k]? = some v)) :
    Calls Tryd.prog 12 #[.pointer (some ⟨hb, 0, none⟩), .int .i64 (k : Int)] w fun e w' => e = .returned (.int .i64 (v : Int)) ∧ w = w' := by
  have hkn : k < n := by
    have := (List.getElem?_eq_some_iff.1 hk.out).1
    have := h.out.al
    omega
  have hn := h.out.few
  have HL := hide (load_one ga k v w (h.out.count_at hk.out))
  have c0 := cell_blk h.out.blk 0
  have c1 := cell_blk h.out.blk 1
  simp at c0 c1
  go_enter Tryd.func12, Tryd.ntmps12
  go_wp2_with fail
  refine HL.out.mono ?_; rintro e w2 ⟨rfl, rfl⟩
  go_wp2_with fail
  go_ret
  exact ⟨rfl, rfl⟩
set_option maxHeartbeats 800000 in
theorem asked_out (hb ga : Nat) (Al : Option Addr) (n cl : Nat) (rs : List HR) (qs : List Nat) (k : Int) (w : World) (h : Hid (HO w hb ga Al n cl rs qs)) (hk : k < 0 ∨ (n : Int) ≤ k) :
    Calls Tryd.prog 12 #[.pointer (some ⟨hb, 0, none⟩), .int .i64 k] w fun e w' => e = .returned (.int .i64 0) ∧ w = w' := by
  have hn := h.out.few
  have c0 := cell_blk h.out.blk 0
  have c1 := cell_blk h.out.blk 1
  simp at c0 c1
  rcases hk with hk | hk
  · go_enter Tryd.func12, Tryd.ntmps12
    go_wp2_with fail
    go_ret
    exact ⟨rfl, rfl⟩
  · have h0 : ¬ k < 0 := by omega
    go_enter Tryd.func12, Tryd.ntmps12
    go_wp2_with fail
    go_ret
    exact ⟨rfl, rfl⟩
theorem asked_none (k : Int) (w : World) : Calls Tryd.prog 12 #[.pointer none, .int .i64 k] w fun e w' => e = .returned (.int .i64 0) ∧ w = w' := by
  go_enter Tryd.func12, Tryd.ntmps12
  go_wp2_with fail
  go_ret
  exact ⟨rfl, rfl⟩

def sumL (qs : List Nat) : Nat := qs.foldl (· + ·) 0
theorem sumL_add (qs : List Nat) (a : Nat) : qs.foldl (· + ·) a = a + sumL qs := by
  unfold sumL
  induction qs generalizing a with
  | nil => simp
  | cons b r ih => rw [List.foldl_cons, List.foldl_cons, ih (a + b), ih (0 + b)]; omega
theorem sumL_step (qs : List Nat) {k v : Nat} (hk : qs[k]? = some v) : sumL (qs.take (k + 1)) = sumL (qs.take k) + v := by
  have : qs.take (k + 1) = qs.take k ++ [v] := by rw [List.take_add_one, hk]; rfl
  rw [this]
  unfold sumL
  rw [List.foldl_append]
  rfl
theorem sumL_le (qs : List Nat) (h : ∀ a ∈ qs, a ≤ 1000) : sumL qs ≤ qs.length * 1000 := by
  induction qs with
  | nil => simp [sumL]
  | cons b r ih =>
    unfold sumL
    rw [List.foldl_cons, sumL_add, List.length_cons, Nat.succ_mul]
    have h1 := ih (fun a ha => h a (by simp [ha]))
    have h2 := h b (by simp)
    omega
theorem sumL_set (qs : List Nat) {k v : Nat} (hk : qs[k]? = some v) : sumL (qs.set k (v + 1)) = sumL qs + 1 := by
  induction qs generalizing k with
  | nil => simp at hk
  | cons b r ih =>
    unfold sumL
    cases k with
    | zero =>
      have : b = v := by simpa using hk
      subst this
      rw [List.set_cons_zero, List.foldl_cons, List.foldl_cons, sumL_add, sumL_add]; omega
    | succ k =>
      rw [List.set_cons_succ, List.foldl_cons, List.foldl_cons, sumL_add, sumL_add, ih (by simpa using hk)]; omega
set_option maxHeartbeats 800000 in
theorem total_any (hb ga : Nat) (Al : Option Addr) (n cl : Nat) (rs : List HR) (qs : List Nat) (w : World) (h : Hid (HO w hb ga Al n cl rs qs)) (ha : Hid (∀ a ∈ qs, a ≤ 1000)) :
    Calls Tryd.prog 13 #[.pointer (some ⟨hb, 0, none⟩)] w fun e w' => e = .returned (.int .i64 (sumL qs : Int)) ∧ w = w' := by
  have hn := h.out.few
  have HA := hide h.out.al
  have hs : ∀ k, sumL (qs.take k) ≤ 30000 := by
    intro k
    have h1 := sumL_le (qs.take k) (fun a hm => ha.out a (List.mem_of_mem_take hm))
    have h2 : (qs.take k).length ≤ 30 := by rw [List.length_take]; have := HA.out; omega
    have := Nat.mul_le_mul_right 1000 h2
    omega
  have HS := hide hs
  have c0 := cell_blk h.out.blk 0
  have c1 := cell_blk h.out.blk 1
  simp at c0 c1
  clear hs
  go_enter Tryd.func13, Tryd.ntmps13
  go_wp2_with fail
  go_loop [3, 4, 12] (fun s _ i => ∃ (k u : Nat), s = .int .i64 (u : Int) ∧ i = .int .i64 (k : Int) ∧ k ≤ n ∧ u ≤ 30000 ∧ Hid (sumL (qs.take k) = u)) (fun _ _ i => n - (intOf i).toNat)
  case atStart => exact ⟨0, 0, rfl, rfl, by omega, by omega, rfl⟩
  case round =>
    obtain ⟨k, u, rfl, rfl, hk, hu, hsum⟩ := hrel
    by_cases hlt : k < n
    · obtain ⟨v, hv⟩ : ∃ v, qs[k]? = some v := ⟨_, List.getElem?_eq_getElem (by have := HA.out; omega)⟩
      have hv1 : v ≤ 1000 := ha.out v (List.mem_of_getElem? hv)
      have HV := hide hv
      have hst : Hid (sumL (qs.take (k + 1)) = u + v) := by show _ = _; rw [sumL_step qs hv, hsum.out]
      have hsu : u + v ≤ 30000 := by have := HS.out (k + 1); rw [hst.out] at this; exact this
      have HC := hide (asked_in hb ga Al n cl rs qs k v w h HV)
      clear hv
      go_wp2_with fail
      refine HC.out.mono ?_; rintro e w2 ⟨rfl, rfl⟩
      go_wp2_with fail
      go_round
      case rel => exact ⟨k + 1, u + v, by go_num, by go_num, by omega, by omega, hst⟩
      case measure => simp [intOf] <;> omega
    · have hfull : Hid (u = sumL qs) := by
        have := hsum.out
        rw [List.take_of_length_le (by have := HA.out; omega)] at this
        exact this.symm
      clear hsum
      go_wp2_with fail
      go_ret
      exact ⟨by rw [hfull.out]; rfl, rfl⟩
theorem total_none (w : World) : Calls Tryd.prog 13 #[.pointer none] w fun e w' => e = .returned (.int .i64 0) ∧ w = w' := by
  go_enter Tryd.func13, Tryd.ntmps13
  go_wp2_with fail
  go_ret
  exact ⟨rfl, rfl⟩

set_option maxHeartbeats 800000 in
theorem rule_none (xm xn : List UInt8) (sg : Int) (w : World) :
    Calls Tryd.prog 9 #[.pointer none, .agg #[.string ⟨xm.toArray⟩, .string ⟨xn.toArray⟩, .int .i64 sg]] w fun e w' => e = .returned (.tuple #[.int .i64 0, .bool false]) ∧ Hid (Below w.heap.size w w') := by
  go_enter Tryd.func9, Tryd.ntmps9
  go_wp2_with fail
  go_ret2
  exact ⟨rfl, (Below.refl _ _).alloc (Nat.le_refl _) _⟩
theorem idxI_ge (o : Option Nat) : -1 ≤ idxI o := by cases o <;> simp [idxI] <;> omega
set_option maxHeartbeats 1600000 in
theorem rule_any (hb ga : Nat) (Al : Option Addr) (n cl : Nat) (rs : List HR) (qs : List Nat) (xm xn : List UInt8) (sg : Int) (w : World) (h : Hid (HO w hb ga Al n cl rs qs)) :
    Calls Tryd.prog 9 #[.pointer (some ⟨hb, 0, none⟩), .agg #[.string ⟨xm.toArray⟩, .string ⟨xn.toArray⟩, .int .i64 sg]] w fun e w' => e = .returned (.tuple #[.int .i64 ((findH rs xm xn 0).getD 0 : Nat), .bool (findH rs xm xn 0).isSome]) ∧ Hid (Below w.heap.size w w') := by
  obtain ⟨W, hW⟩ : ∃ W, w.alloc (.cells #[.string ⟨xm.toArray⟩, .string ⟨xn.toArray⟩, .int .i64 sg] 35) = W := ⟨_, rfl⟩
  have hb1 : Below w.heap.size w W := by rw [← hW]; exact (Below.refl _ _).alloc (Nat.le_refl _) _
  have hx : Hid (W.heap[w.heap.size]? = some (.cells #[.string ⟨xm.toArray⟩, .string ⟨xn.toArray⟩, .int .i64 sg] 35 (0, 0))) := by show _ = _; rw [← hW]; exact heap_alloc_new w _
  have h1 := h.out.below hb1
  have hlen := h.out.len
  have hn := h.out.few
  have hrd : Hid (Reads W W.heap.size 4 Al rs.length (rs.flatMap hrV)) := by show Reads _ _ _ _ _ _; rw [hlen]; exact h1.rules
  have HI := hide (indexFunc_any Al cl rs w.heap.size xm xn sg W hrd (by omega) hx)
  rw [hlen] at HI
  have hmf : ∀ (fn : Fn) (first cap : Array Value) (w : World), (Instr.makeFunc fn first cap).run Tryd.prog w = .ok (.func fn first cap) w := fun _ _ _ _ => rfl
  have c0 := cell_blk h1.blk 0
  have c1 := cell_blk h1.blk 1
  simp at c0 c1
  have HW := hide hW; have HB := hide hb1
  clear hW hb1 hx h1 hrd hlen h hn
  cases hf : findH rs xm xn 0 with
  | none =>
    rw [hf] at HI
    clear hf
    go_enter Tryd.func9, Tryd.ntmps9
    go_upto_region 1 with fail
    rw [HW.out]
    go_wp2_with fail
    refine HI.out.mono ?_; rintro e w2 ⟨rfl, h2⟩
    simp only [idxI]
    go_wp2_with fail
    go_ret2
    exact ⟨rfl, HB.out.trans (h2.out.mono HB.out.size)⟩
  | some k =>
    rw [hf] at HI
    clear hf
    have hk0 : ¬ (k : Int) < 0 := by omega
    go_enter Tryd.func9, Tryd.ntmps9
    go_upto_region 1 with fail
    rw [HW.out]
    go_wp2_with fail
    refine HI.out.mono ?_; rintro e w2 ⟨rfl, h2⟩
    simp only [idxI]
    go_wp2_with fail
    go_ret2
    exact ⟨by first | rfl | (congr 3; simp; omega), HB.out.trans (h2.out.mono HB.out.size)⟩
end Go.Proofs.YtnfaaiifbiobiaaDoor
