/-
  conv: a word told in tens; the laws' own example.
-/
import Derived.Test.YtpphkfolhlkaiaaDoorConv
import Derived.Test.YtpphkfolhlkaiaaDoorShelf
import Derived.Lib.AppendIntMem
namespace Go.Proofs.YtpphkfolhlkaiaaDoor
open Go.RowKit
set_option linter.unusedVariables false

abbrev Tab (w : World) : Prop := Lib.TabIs Tryd.prog w "internal/strconv.uint64pow10" .u64 Lib.pow10Tab

set_option maxHeartbeats 400000 in
theorem sign_ex (w : World) : Calls Tryd.prog 22 #[.int .i64 32, .int .u64 4294967295] w fun e w' => e = .returned (.int .i64 (-1)) ∧ w = w' := by
  go_enter Tryd.func22, Tryd.ntmps22
  go_wp2_with fail
  go_ret
  exact ⟨ret_int (by unfold wrap64 wrap32; omega), rfl⟩

set_option maxHeartbeats 400000 in
theorem format_any (n : Int) (w : World) (h0 : -9223372036854775808 ≤ n) (h1 : n ≤ 9223372036854775807) (ht : Hid (Tab w)) :
    Calls Tryd.prog 21 #[.int .i64 n, .int .i64 10] w fun e w' => e = .returned (.string ⟨(Lib.itoa n).toArray⟩) ∧ Below w.heap.size w w' := by
  have H := hide (Tryd.internal_strconv_FormatInt_10 n h0 h1 w ht.out)
  go_enter Tryd.func21, Tryd.ntmps21
  go_wp2_with fail
  refine H.out.mono ?_; rintro e w' ⟨rfl, k, os, rfl⟩
  have HB := hide (Go.Lib.below_grow w.heap.size w (Nat.le_refl _) k os)
  generalize Go.Sort.grow (w.drewN k) os = w2 at HB ⊢
  go_wp2_with fail
  go_ret
  exact ⟨rfl, HB.out⟩

set_option maxHeartbeats 800000 in
theorem print_ex (w : World) (ht : Hid (Tab w)) :
    Calls Tryd.prog 17 #[.int .i64 32, .int .u64 4294967295] w fun e w' => e = .returned (.string ⟨#[45, 49]⟩) ∧ Below w.heap.size w w' := by
  have H := hide (format_any (-1) w (by omega) (by omega) ht)
  have hi : Lib.itoa (-1) = [45, 49] := by decide +kernel
  rw [hi] at H
  go_enter Tryd.func17, Tryd.ntmps17
  go_wp2_with fail
  refine (sign_ex w).mono ?_; rintro e w' ⟨rfl, rfl⟩
  go_wp2_with fail
  refine H.out.mono ?_; rintro e w' ⟨rfl, hb⟩
  have HB := hide hb; clear hb
  go_wp2_with fail
  go_ret
  exact ⟨rfl, HB.out⟩

set_option maxHeartbeats 800000 in
theorem awakeC (w : World) (ht : Hid (Tab w)) : Calls Tryd.prog 8 #[] w fun e w' => e = .returned (.bool true) ∧ Below w.heap.size w w' := by
  have hx := extend_yes 8 32 true 255 w ⟨.inl rfl, .inl rfl⟩ (by omega)
  rw [show extV 8 32 true 255 = 4294967295 from by decide +kernel] at hx
  have HX := hide hx; clear hx
  have HP := hide (print_ex w ht)
  go_enter Tryd.func8, Tryd.ntmps8
  go_wp2_with fail
  refine HX.out.mono ?_; rintro e w' ⟨rfl, rfl⟩
  go_wp2_with fail
  refine HP.out.mono ?_; rintro e w' ⟨rfl, hb⟩
  have HB := hide hb; clear hb
  go_wp2_with fail
  go_ret
  exact ⟨rfl, HB.out⟩
end Go.Proofs.YtpphkfolhlkaiaaDoor
