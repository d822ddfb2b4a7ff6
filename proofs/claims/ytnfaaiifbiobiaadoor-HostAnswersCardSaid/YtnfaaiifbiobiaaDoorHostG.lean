/-
  host: a new host: contract.
-/
import Derived.Test.YtnfaaiifbiobiaaDoorHostF
namespace Go.Proofs.YtnfaaiifbiobiaaDoor
open Go.RowKit
set_option linter.unusedVariables false

section
variable {P : Program} {o : Oper} {ρ : Operand → Value} {W W' : World} {post : Value → World → Prop} {v : Value}
theorem OpOut.makeSlice {t : TypeId} {x y : Operand} {a b : Value} (ho : o.op = .makeSlice t x y) (hx : ρ x = a) (hy : ρ y = b) (hr : (Instr.makeSlice t a b).run P W = .ok v W') (h : post v W') : OpOut P o ρ W post :=
  ⟨by unfold execOp; rw [ho]; simp only [hx, hy, Sem.run_bind, Sem.run_pure, hr, Result.andThen_ok]; exact h⟩
theorem OpOut.box {t : TypeId} {x : Operand} {a : Value} (ho : o.op = .box t x) (hx : ρ x = a) (hr : (Instr.box t a).run P W = .ok v W') (h : post v W') : OpOut P o ρ W post :=
  ⟨by unfold execOp; rw [ho]; simp only [hx, Sem.run_bind, Sem.run_pure, hr, Result.andThen_ok]; exact h⟩
end
theorem run_make_zz {P : Program} {t e : TypeId} {bytes : Nat} {z u : Value} (ht : P.underlying t = some (.slice e)) (hi : (P.info? e).map (fun i => (i.zero, i.size, i.bytes)) = some (some z, 1, bytes)) (hz : z.cells = #[u]) (W : World) (n : Nat) (hb : bytes * n ≤ 1000000000) (hn : n ≤ 1000000000) :
    (Instr.makeSlice t (.int .i64 (n : Int)) (.int .i64 (n : Int))).run P W = .ok (.slice (some ⟨W.heap.size, 0, none⟩) n n) (W.alloc (.cells (List.replicate n u).toArray e)) := by
  obtain ⟨i, h1, h2⟩ := Option.map_eq_some_iff.1 hi
  simp only [Prod.mk.injEq] at h2
  obtain ⟨h2, h3, h4⟩ := h2
  have h := run_make (P := P) W t e i z ht h1 h2 .i64 .i64 n n (by omega) (by omega) (by rw [h4]; rw [← Int.natCast_mul]; omega) (by omega)
  rw [Int.toNat_natCast, h3, Nat.mul_one, hz] at h
  rw [h]
  congr 3
  unfold madeCells
  apply Array.ext
  · simp
  · intro j h1 h2
    simp [Nat.mod_one]

/-- a new host -/
def NewPost (w : World) (n : Nat) (rs : List HR) (e : Ending) (w' : World) : Prop :=
  ∃ hb ga A1 c1, e = .returned (.tuple #[.pointer (some ⟨hb, 0, none⟩), .int .i64 0]) ∧ Hid (HO w' hb ga A1 n c1 rs (List.replicate n 0)) ∧ Hid (w.heap.size ≤ hb ∧ w.heap.size ≤ ga ∧ ∀ ad, A1 = some ad → w.heap.size ≤ ad.block ∧ ad.block < w'.heap.size) ∧ Hid (Below w.heap.size w w')

set_option maxHeartbeats 800000 in
theorem new_long (A : Option Addr) (c n : Nat) (w : World) (hl : 30 < n) :
    Calls Tryd.prog 8 #[.slice A n c] w fun e w' => e = .returned (.tuple #[.pointer none, .int .i64 15]) ∧ w = w' := by
  go_enter Tryd.func8, Tryd.ntmps8
  go_wp2_with fail
  go_ret2
  exact ⟨rfl, rfl⟩
set_option maxHeartbeats 800000 in
theorem new_bad (A : Option Addr) (c n : Nat) (rs : List HR) (w : World) (hr : Hid (Reads w w.heap.size 4 A rs.length (rs.flatMap hrV))) (hn : Hid (rs.length = n)) (hl : n ≤ 30) (hfair : Hid (Fair rs)) (hq : rs.all rightH = false) :
    Calls Tryd.prog 8 #[.slice A n c] w fun e w' => e = .returned (.tuple #[.pointer none, .int .i64 1]) ∧ Hid (Below w.heap.size w w') := by
  have HC := hide (containsNew_any A c n rs w hr hn (by omega) hfair)
  rw [hq] at HC
  clear hq
  go_enter Tryd.func8, Tryd.ntmps8
  go_wp2_with fail
  refine HC.out.mono ?_; rintro e w2 ⟨rfl, h2⟩
  simp only [Bool.not_false]
  go_wp2_with fail
  go_ret2
  exact ⟨rfl, h2⟩

theorem cells_ne {w : World} {g h : Nat} {cs ds : Array Value} {t u : TypeId} (hg : w.heap[g]? = some (.cells cs t (0, 0))) (hh : w.heap[h]? = some (.cells ds u (0, 0))) (hne : t ≠ u) : g ≠ h := by
  intro e
  subst e
  rw [hg] at hh
  injection hh with hh
  injection hh with _ hh
  exact hne hh
/-- the row lies in another block than one of another type -/
theorem own_ne {w : World} {base g : Nat} {e u : TypeId} {size n : Nat} {v : Value} {xs : List Value} {cs : Array Value} (h : w.ownsRow base e size v n xs) (hg : w.heap[g]? = some (.cells cs u (0, 0))) (hne : e ≠ u) : ∀ k, v.ownBlock = some k → k ≠ g := by
  intro k hk
  rcases h.2 with ⟨rfl, _⟩ | ⟨g', cap, cur, rfl, _, hh, _⟩
  · cases hk
  · have : g' = k := by injection hk
    subst this
    exact cells_ne hh hg hne

set_option maxRecDepth 100000 in
set_option maxHeartbeats 1600000 in
theorem new_ok (A : Option Addr) (c n : Nat) (rs : List HR) (w : World) (hr : Hid (Reads w w.heap.size 4 A rs.length (rs.flatMap hrV))) (hn : Hid (rs.length = n)) (hl : n ≤ 30) (hfair : Hid (Fair rs)) (hq : rs.all rightH = true) :
    Calls Tryd.prog 8 #[.slice A n c] w (NewPost w n rs) := by
  have HC := hide (containsNew_any A c n rs w hr hn (by omega) hfair)
  rw [hq] at HC
  clear hq
  go_enter Tryd.func8, Tryd.ntmps8
  go_wp2_with fail
  refine HC.out.mono ?_; rintro e w2 ⟨rfl, h2⟩
  simp only [Bool.not_true]
  go_upto_region 5 with fail
  have hr2 : Hid (Reads w2 w2.heap.size 4 A n (rs.flatMap hrV)) := by
    have := (hr.out.below h2.out).more h2.out.size
    rw [hn.out] at this
    exact this
  have HCL := hide (fun W (h : Below w2.heap.size w2 W) => clone_any A c n rs W ((hr2.out.below h).more h.size) (by omega))
  have HMK : Hid (∀ W : World, (Instr.makeSlice 58 (.int .i64 (n : Int)) (.int .i64 (n : Int))).run Tryd.prog W = .ok (.slice (some ⟨W.heap.size, 0, none⟩) n n) (W.alloc (.cells (List.replicate n (.int .i64 0)).toArray 67))) := by
    show ∀ W, _
    intro W
    exact run_make_zz (bytes := 8) (z := .agg #[.int .i64 0]) Tryd.underlying58 (by kernel_rfl) rfl W n (by omega) (by omega)
  obtain ⟨base, hbase⟩ : ∃ b, w2.heap.size = b := ⟨_, rfl⟩
  have HBA := hide hbase
  clear hbase HC
  refine wp_region_factsR grew_ext (factsOf [fun yy _ => yy = .slice A n c,
    fun yy W => ∃ A1 c1, yy = .slice A1 n c1 ∧ W.ownsRow base 28 4 (.slice A1 n c1) n (rs.flatMap hrV),
    fun yy _ => yy = .slice A n c,
    fun yy _ => yy = .int .i64 n,
    fun yy W => ∃ g, yy = .slice (some ⟨g, 0, none⟩) n n ∧ base ≤ g ∧ W.heap[g]? = some (.cells (List.replicate n (.int .i64 0)).toArray 67 (0, 0)),
    fun yy W => ∃ A1 c1 g, yy = .agg #[.slice A1 n c1, .slice (some ⟨g, 0, none⟩) n n] ∧ W.ownsRow base 28 4 (.slice A1 n c1) n (rs.flatMap hrV) ∧ base ≤ g ∧ W.heap[g]? = some (.cells (List.replicate n (.int .i64 0)).toArray 67 (0, 0)),
    fun yy W => ∃ A1 c1 g hb, yy = .pointer (some ⟨hb, 0, none⟩) ∧ W.ownsRow base 28 4 (.slice A1 n c1) n (rs.flatMap hrV) ∧ base ≤ g ∧ W.heap[g]? = some (.cells (List.replicate n (.int .i64 0)).toArray 67 (0, 0)) ∧ base ≤ hb ∧ W.heap[hb]? = some (.cells #[.slice A1 n c1, .slice (some ⟨g, 0, none⟩) n n] 60 (0, 0)),
    fun yy W => ∃ A1 c1 g hb, yy = .pointer (some ⟨hb, 0, none⟩) ∧ W.ownsRow base 28 4 (.slice A1 n c1) n (rs.flatMap hrV) ∧ base ≤ g ∧ W.heap[g]? = some (.cells (List.replicate n (.int .i64 0)).toArray 67 (0, 0)) ∧ base ≤ hb ∧ W.heap[hb]? = some (.cells #[.slice A1 n c1, .slice (some ⟨g, 0, none⟩) n n] 60 (0, 0)),
    fun yy _ => yy = .int .i64 0]) (by kernel_rfl) (by kernel_rfl) ?_ ?_
  · refine ⟨?_, ?_, ?_, ?_, ?_, ?_, ?_, ?_, ?_, trivial⟩
    · refine ⟨fun ρ W hk => ?_⟩
      have o0 : ρ (.tmp 0) = .slice A n c := hk.old 0 (by decide)
      exact OpOut.move (.tmp 0) rfl ⟨Below.refl _ _, o0⟩
    · refine ⟨fun ρ W hk => ?_⟩
      have h0 := (hk.fact 0 11 (by decide) rfl).pure
      refine OpOut.fn (args := #[.slice A n c]) rfl (hk.func _) (by simp [h0]) Tryd.func19 (by kernel_rfl) rfl ?_
      refine (HCL.out W hk.below).mono ?_; rintro e w5 ⟨A1, c1, rfl, ho, hb5⟩
      exact ⟨_, rfl, hb5.out, A1, c1, rfl, own_base ho.out (fun g hg => by have := own_ge ho.out g hg; have := hk.below.size; rw [HBA.out] at this; omega)⟩
    · refine ⟨fun ρ W hk => ?_⟩
      have o0 : ρ (.tmp 0) = .slice A n c := hk.old 0 (by decide)
      exact OpOut.move (.tmp 0) rfl ⟨Below.refl _ _, o0⟩
    · refine ⟨fun ρ W hk => ?_⟩
      have h2' := (hk.fact 2 13 (by decide) rfl).pure
      exact OpOut.len (x := .tmp 13) rfl Tryd.underlying22 h2' ⟨Below.refl _ _, rfl⟩
    · refine ⟨fun ρ W hk => ?_⟩
      have h3 := (hk.fact 3 14 (by decide) rfl).pure
      exact OpOut.makeSlice (x := .tmp 14) (y := .tmp 14) rfl h3 h3 (HMK.out W) ⟨(Below.refl _ _).alloc (Nat.le_refl _) _, W.heap.size, rfl, by have := hk.below.size; rw [HBA.out] at this; omega, heap_alloc_new W _⟩
    · refine ⟨fun ρ W hk => ?_⟩
      obtain ⟨w1, hw1, A1, c1, e1, ho1⟩ := hk.fact 1 12 (by decide) rfl
      obtain ⟨w4, hw4, g, e4, hg, hh⟩ := hk.fact 4 15 (by decide) rfl
      exact OpOut.build (us := #[(0, .slice A1 n c1), (1, .slice (some ⟨g, 0, none⟩) n n)]) rfl (by simp [e1, e4]) (by go_simp) ⟨Below.refl _ _, A1, c1, g, rfl, own_only3 (S := []) ho1 (Only.of_below hw1) (by simp), hg, (hw4.block g (blk_lt hh)).trans hh⟩
    · refine ⟨fun ρ W hk => ?_⟩
      obtain ⟨w5, hw5, A1, c1, g, e5, ho, hg, hh⟩ := hk.fact 5 16 (by decide) rfl
      have hbz : Below W.heap.size W (W.alloc (.cells #[.slice A1 n c1, .slice (some ⟨g, 0, none⟩) n n] 60)) := (Below.refl _ _).alloc (Nat.le_refl _) _
      have hall : Below w5.heap.size w5 (W.alloc (.cells #[.slice A1 n c1, .slice (some ⟨g, 0, none⟩) n n] 60)) := hw5.trans (hbz.mono hw5.size)
      exact OpOut.box (x := .tmp 16) rfl e5 (by go_simp) ⟨hbz, A1, c1, g, W.heap.size, rfl, own_only3 (S := []) ho (Only.of_below hall) (by simp), hg, (hall.block g (blk_lt hh)).trans hh, by have := hk.below.size; rw [HBA.out] at this; omega, heap_alloc_new W _⟩
    · refine ⟨fun ρ W hk => ?_⟩
      obtain ⟨w6, hw6, A1, c1, g, hb, e6, ho, hg, hh, hbb, hhb⟩ := hk.fact 6 17 (by decide) rfl
      exact OpOut.assign (.tmp 17) rfl ⟨Below.refl _ _, A1, c1, g, hb, e6, own_only3 (S := []) ho (Only.of_below hw6) (by simp), hg, (hw6.block g (blk_lt hh)).trans hh, hbb, (hw6.block hb (blk_lt hhb)).trans hhb⟩
    · refine ⟨fun ρ W hk => ?_⟩
      exact OpOut.assign (.const (.int .i64 0)) rfl ⟨Below.refl _ _, hk.const _⟩
  · intro vs W2 hb hf
    obtain ⟨w7, hw7, A1, c1, g, hb', e7, ho, hg, hh, hbb, hhb⟩ := hf 7 (by decide)
    have e8 := (hf 8 (by decide)).pure
    have ho2 := own_only3 (S := []) ho (Only.of_below hw7) (by simp)
    have hh2 := (hw7.block g (blk_lt hh)).trans hh
    have hhb2 := (hw7.block hb' (blk_lt hhb)).trans hhb
    have HO2 := hide ho2; have HH2 := hide hh2; have HHB2 := hide hhb2; have HG := hide hg; have HBB := hide hbb
    have HB := hide hb
    clear hf ho hh hhb ho2 hh2 hhb2 hw7 hg hbb hb
    simp only [fillL]
    rw [e7, e8]
    generalize vs 0 = v0, vs 1 = v1, vs 2 = v2, vs 3 = v3, vs 4 = v4, vs 5 = v5, vs 6 = v6
    go_frame
    go_wp2_with fail
    go_ret2
    have hws : w.heap.size ≤ base := by rw [← HBA.out]; exact h2.out.size
    refine ⟨hb', g, A1, c1, rfl, ⟨HHB2.out, Reads.of_own HO2.out, ?_, hn.out, by simp, hl, cells_ne HHB2.out HH2.out (by decide), ?_⟩, ⟨by have := HBB.out; omega, by have := HG.out; omega, ?_⟩, h2.out.trans (HB.out.mono h2.out.size)⟩
    · rw [HH2.out]
      simp [I]
    · intro ad e
      exact own_ne HO2.out HH2.out (by decide) ad.block (by rw [e]; rfl)
    · intro ad e
      have := own_ge HO2.out ad.block (by rw [e]; rfl)
      have := own_lt HO2.out ad.block (by rw [e]; rfl)
      omega
end Go.Proofs.YtnfaaiifbiobiaaDoor
