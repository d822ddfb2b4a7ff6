/-
  flash: how many reads; the laws' own example.
-/
import Derived.Test.YtiaigkpnhmgphaaFlashD
namespace Go.Proofs.Ytiaigkpnhmgphaa
open Go.RowKit
set_option linter.unusedVariables false

set_option maxHeartbeats 400000 in
theorem load_any (f c : Nat) (A : Option Addr) (bs : List UInt8) (r fl : Int) (w : World) (hf : Hid (FL w f A c bs r fl)) :
    Calls Try.prog 31 #[.pointer (some ⟨f, 1, none⟩)] w fun e w' => e = .returned (.int .i64 r) ∧ w = w' := by
  have c1 := cell_blk hf.out.blk 1
  simp at c1
  have hload := run_call_load (P := Try.prog) Try.func38 (by kernel_rfl) (by kernel_rfl) (by kernel_rfl) .i64 (by kernel_rfl) c1
  go_enter Try.func31, Try.ntmps31
  go_wp2_with fail
  go_ret
  exact ⟨rfl, rfl⟩

set_option maxHeartbeats 400000 in
theorem reads_any (f c : Nat) (A : Option Addr) (bs : List UInt8) (r fl : Int) (w : World) (hf : Hid (FL w f A c bs r fl)) (h1 : 0 ≤ r) (h2 : r ≤ 1000000) :
    Calls Try.prog 18 #[.pointer (some ⟨f, 0, none⟩)] w fun e w' => e = .returned (.int .i64 r) ∧ w = w' := by
  go_enter Try.func18, Try.ntmps18
  go_wp2_with fail
  refine (load_any f c A bs r fl w hf).mono ?_; rintro e w' ⟨rfl, rfl⟩
  go_wp2_with fail
  go_ret
  exact ⟨rfl, rfl⟩

theorem str_reads {w : World} {Bk : Nat} {A : Option Addr} {bs : List UInt8} (c : Nat) (h : Reads w Bk 1 A bs.length (bs.map B)) (W : World) (hW : ∀ p : Addr, W.cell? p = w.cell? p) :
    (convert 22 9 (.slice A bs.length c)).run Try.prog W = .ok (.string ⟨bs.toArray⟩) W :=
  run_string_reads _ _ 5 c Try.underlying22 Try.underlying5 Try.underlying9 (h.keep fun p _ => hW p)

def ex3 : List UInt8 := [1, 2, 3]

set_option maxHeartbeats 800000 in
set_option maxRecDepth 100000 in
theorem awake_any (w : World) : Calls Try.prog 7 #[] w fun e w' => e = .returned (.bool true) ∧ Below w.heap.size w w' := by
  have hr : Hid (Reads (w.alloc (.cells #[.int .u8 1, .int .u8 2, .int .u8 3] 5)) (w.heap.size + 1) 1 (some ⟨w.heap.size, 0, none⟩) ex3.length (ex3.map B)) := by
    have := Reads.of_new w (ex3.map B) 5 3 rfl
    exact this
  have hb0 : Below w.heap.size w (w.alloc (.cells #[.int .u8 1, .int .u8 2, .int .u8 3] 5)) := (Below.refl _ _).alloc (Nat.le_refl _) _
  have HB0 := hide hb0; clear hb0
  go_enter Try.func7, Try.ntmps7
  go_wp2_with fail
  refine (new_any (some ⟨w.heap.size, 0, none⟩) 3 _ ex3 _ hr (by decide)).mono ?_; rintro e w1 ⟨f, A, c, rfl, hf0, hF, hB1⟩
  go_wp2_with fail
  refine (cursor_any f c A ex3 0 (-1) 0 3 w1 hF (by omega) (by omega) (by decide)).mono ?_; rintro e w2 ⟨g, rfl, hg0, hC, hB2⟩
  have hF2 := hide (hF.out.below hB2.out (blk_lt hF.out.blk))
  go_wp2_with fail
  refine (take_ok g f c A ex3 0 (-1) 0 3 0 2 w2 hF2 hC (by omega) (by omega) (by decide) (by omega) (by omega) (by omega) (by decide) (.inl (by omega))).mono ?_; rintro e w3 ⟨A1, c1, rfl, k1, k2, k3, k4⟩
  have s1 : (convert 22 9 (.slice A1 (partB ex3 0 2).length c1)).run Try.prog w3 = .ok (.string ⟨(partB ex3 0 2).toArray⟩) w3 := str_reads c1 (Reads.of_own k1.out) w3 (fun _ => rfl)
  rw [show partB ex3 0 2 = [1, 2] from by decide] at s1 ⊢
  simp only [List.length_cons, List.length_nil, Nat.zero_add, Nat.reduceAdd] at s1 ⊢
  go_wp2_with fail
  refine (left_any g f 0 3 2 w3 k3 (by omega) (by omega) (by omega)).mono ?_; rintro e w4 ⟨rfl, d, rfl⟩
  go_wp2_with fail
  refine (reads_any f c A ex3 1 (-1) _ (show Hid (FL (w3.drewN d) f A c ex3 1 (-1)) from ⟨k2.out.blk, k2.out.row.drewN d, k2.out.cap⟩) (by omega) (by omega)).mono ?_; rintro e w5 ⟨rfl, rfl⟩
  go_wp2_with fail
  go_ret
  have hs0 := HB0.out.size
  have b1 := HB0.out.trans (hB1.out.mono hs0)
  have b2 := b1.trans (hB2.out.mono b1.size)
  have b3 := b2.trans (k4.out.below (B := w.heap.size) b2.size (by intro x hx; have := b1.size; simp at hx hf0; rcases hx with rfl | rfl <;> omega))
  exact ⟨rfl, b3.os, b3.tape, b3.output, b3.size, b3.block⟩
end Go.Proofs.Ytiaigkpnhmgphaa
