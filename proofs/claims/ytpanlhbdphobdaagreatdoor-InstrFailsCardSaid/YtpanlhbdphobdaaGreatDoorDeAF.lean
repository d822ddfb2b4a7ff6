/-
  The document's answer on ops: Form, Foreign: contracts.
-/
import Derived.Test.YtpanlhbdphobdaaGreatDoorDeAC
import Derived.Test.YtpanlhbdphobdaaGreatDoorDeAE
import Derived.Outline
namespace Go.Proofs.YtpanlhbdphobdaaGreatDoor
open Go.RowKit
set_option linter.unusedVariables false

--GEN
def refNames : List ByteArray := [⟨#[117, 110, 114, 101, 97, 99, 104, 97, 98, 108, 101]⟩, ⟨#[110, 111, 112]⟩, ⟨#[98, 108, 111, 99, 107]⟩, ⟨#[108, 111, 111, 112]⟩, ⟨#[105, 102]⟩, ⟨#[101, 108, 115, 101]⟩, ⟨#[]⟩, ⟨#[]⟩, ⟨#[]⟩, ⟨#[]⟩, ⟨#[]⟩, ⟨#[101, 110, 100]⟩, ⟨#[98, 114]⟩, ⟨#[98, 114, 95, 105, 102]⟩, ⟨#[98, 114, 95, 116, 97, 98, 108, 101]⟩, ⟨#[114, 101, 116, 117, 114, 110]⟩, ⟨#[99, 97, 108, 108]⟩, ⟨#[99, 97, 108, 108, 95, 105, 110, 100, 105, 114, 101, 99, 116]⟩, ⟨#[]⟩, ⟨#[]⟩, ⟨#[]⟩, ⟨#[]⟩, ⟨#[]⟩, ⟨#[]⟩, ⟨#[]⟩, ⟨#[]⟩, ⟨#[100, 114, 111, 112]⟩, ⟨#[115, 101, 108, 101, 99, 116]⟩, ⟨#[]⟩, ⟨#[]⟩, ⟨#[]⟩, ⟨#[]⟩, ⟨#[108, 111, 99, 97, 108, 46, 103, 101, 116]⟩, ⟨#[108, 111, 99, 97, 108, 46, 115, 101, 116]⟩, ⟨#[108, 111, 99, 97, 108, 46, 116, 101, 101]⟩, ⟨#[103, 108, 111, 98, 97, 108, 46, 103, 101, 116]⟩, ⟨#[103, 108, 111, 98, 97, 108, 46, 115, 101, 116]⟩, ⟨#[]⟩, ⟨#[]⟩, ⟨#[]⟩, ⟨#[105, 51, 50, 46, 108, 111, 97, 100]⟩, ⟨#[105, 54, 52, 46, 108, 111, 97, 100]⟩, ⟨#[]⟩, ⟨#[]⟩, ⟨#[105, 51, 50, 46, 108, 111, 97, 100, 56, 95, 115]⟩, ⟨#[105, 51, 50, 46, 108, 111, 97, 100, 56, 95, 117]⟩, ⟨#[105, 51, 50, 46, 108, 111, 97, 100, 49, 54, 95, 115]⟩, ⟨#[105, 51, 50, 46, 108, 111, 97, 100, 49, 54, 95, 117]⟩, ⟨#[105, 54, 52, 46, 108, 111, 97, 100, 56, 95, 115]⟩, ⟨#[105, 54, 52, 46, 108, 111, 97, 100, 56, 95, 117]⟩, ⟨#[105, 54, 52, 46, 108, 111, 97, 100, 49, 54, 95, 115]⟩, ⟨#[105, 54, 52, 46, 108, 111, 97, 100, 49, 54, 95, 117]⟩, ⟨#[105, 54, 52, 46, 108, 111, 97, 100, 51, 50, 95, 115]⟩, ⟨#[105, 54, 52, 46, 108, 111, 97, 100, 51, 50, 95, 117]⟩, ⟨#[105, 51, 50, 46, 115, 116, 111, 114, 101]⟩, ⟨#[105, 54, 52, 46, 115, 116, 111, 114, 101]⟩, ⟨#[]⟩, ⟨#[]⟩, ⟨#[105, 51, 50, 46, 115, 116, 111, 114, 101, 56]⟩, ⟨#[105, 51, 50, 46, 115, 116, 111, 114, 101, 49, 54]⟩, ⟨#[105, 54, 52, 46, 115, 116, 111, 114, 101, 56]⟩, ⟨#[105, 54, 52, 46, 115, 116, 111, 114, 101, 49, 54]⟩, ⟨#[105, 54, 52, 46, 115, 116, 111, 114, 101, 51, 50]⟩, ⟨#[109, 101, 109, 111, 114, 121, 46, 115, 105, 122, 101]⟩, ⟨#[109, 101, 109, 111, 114, 121, 46, 103, 114, 111, 119]⟩, ⟨#[105, 51, 50, 46, 99, 111, 110, 115, 116]⟩, ⟨#[105, 54, 52, 46, 99, 111, 110, 115, 116]⟩, ⟨#[]⟩, ⟨#[]⟩, ⟨#[105, 51, 50, 46, 101, 113, 122]⟩, ⟨#[105, 51, 50, 46, 101, 113]⟩, ⟨#[105, 51, 50, 46, 110, 101]⟩, ⟨#[105, 51, 50, 46, 108, 116, 95, 115]⟩, ⟨#[105, 51, 50, 46, 108, 116, 95, 117]⟩, ⟨#[105, 51, 50, 46, 103, 116, 95, 115]⟩, ⟨#[105, 51, 50, 46, 103, 116, 95, 117]⟩, ⟨#[105, 51, 50, 46, 108, 101, 95, 115]⟩, ⟨#[105, 51, 50, 46, 108, 101, 95, 117]⟩, ⟨#[105, 51, 50, 46, 103, 101, 95, 115]⟩, ⟨#[105, 51, 50, 46, 103, 101, 95, 117]⟩, ⟨#[105, 54, 52, 46, 101, 113, 122]⟩, ⟨#[105, 54, 52, 46, 101, 113]⟩, ⟨#[105, 54, 52, 46, 110, 101]⟩, ⟨#[105, 54, 52, 46, 108, 116, 95, 115]⟩, ⟨#[105, 54, 52, 46, 108, 116, 95, 117]⟩, ⟨#[105, 54, 52, 46, 103, 116, 95, 115]⟩, ⟨#[105, 54, 52, 46, 103, 116, 95, 117]⟩, ⟨#[105, 54, 52, 46, 108, 101, 95, 115]⟩, ⟨#[105, 54, 52, 46, 108, 101, 95, 117]⟩, ⟨#[105, 54, 52, 46, 103, 101, 95, 115]⟩, ⟨#[105, 54, 52, 46, 103, 101, 95, 117]⟩, ⟨#[]⟩, ⟨#[]⟩, ⟨#[]⟩, ⟨#[]⟩, ⟨#[]⟩, ⟨#[]⟩, ⟨#[]⟩, ⟨#[]⟩, ⟨#[]⟩, ⟨#[]⟩, ⟨#[]⟩, ⟨#[]⟩, ⟨#[105, 51, 50, 46, 99, 108, 122]⟩, ⟨#[105, 51, 50, 46, 99, 116, 122]⟩, ⟨#[105, 51, 50, 46, 112, 111, 112, 99, 110, 116]⟩, ⟨#[105, 51, 50, 46, 97, 100, 100]⟩, ⟨#[105, 51, 50, 46, 115, 117, 98]⟩, ⟨#[105, 51, 50, 46, 109, 117, 108]⟩, ⟨#[105, 51, 50, 46, 100, 105, 118, 95, 115]⟩, ⟨#[105, 51, 50, 46, 100, 105, 118, 95, 117]⟩, ⟨#[105, 51, 50, 46, 114, 101, 109, 95, 115]⟩, ⟨#[105, 51, 50, 46, 114, 101, 109, 95, 117]⟩, ⟨#[105, 51, 50, 46, 97, 110, 100]⟩, ⟨#[105, 51, 50, 46, 111, 114]⟩, ⟨#[105, 51, 50, 46, 120, 111, 114]⟩, ⟨#[105, 51, 50, 46, 115, 104, 108]⟩, ⟨#[105, 51, 50, 46, 115, 104, 114, 95, 115]⟩, ⟨#[105, 51, 50, 46, 115, 104, 114, 95, 117]⟩, ⟨#[105, 51, 50, 46, 114, 111, 116, 108]⟩, ⟨#[105, 51, 50, 46, 114, 111, 116, 114]⟩, ⟨#[105, 54, 52, 46, 99, 108, 122]⟩, ⟨#[105, 54, 52, 46, 99, 116, 122]⟩, ⟨#[105, 54, 52, 46, 112, 111, 112, 99, 110, 116]⟩, ⟨#[105, 54, 52, 46, 97, 100, 100]⟩, ⟨#[105, 54, 52, 46, 115, 117, 98]⟩, ⟨#[105, 54, 52, 46, 109, 117, 108]⟩, ⟨#[105, 54, 52, 46, 100, 105, 118, 95, 115]⟩, ⟨#[105, 54, 52, 46, 100, 105, 118, 95, 117]⟩, ⟨#[105, 54, 52, 46, 114, 101, 109, 95, 115]⟩, ⟨#[105, 54, 52, 46, 114, 101, 109, 95, 117]⟩, ⟨#[105, 54, 52, 46, 97, 110, 100]⟩, ⟨#[105, 54, 52, 46, 111, 114]⟩, ⟨#[105, 54, 52, 46, 120, 111, 114]⟩, ⟨#[105, 54, 52, 46, 115, 104, 108]⟩, ⟨#[105, 54, 52, 46, 115, 104, 114, 95, 115]⟩, ⟨#[105, 54, 52, 46, 115, 104, 114, 95, 117]⟩, ⟨#[105, 54, 52, 46, 114, 111, 116, 108]⟩, ⟨#[105, 54, 52, 46, 114, 111, 116, 114]⟩, ⟨#[]⟩, ⟨#[]⟩, ⟨#[]⟩, ⟨#[]⟩, ⟨#[]⟩, ⟨#[]⟩, ⟨#[]⟩, ⟨#[]⟩, ⟨#[]⟩, ⟨#[]⟩, ⟨#[]⟩, ⟨#[]⟩, ⟨#[]⟩, ⟨#[]⟩, ⟨#[]⟩, ⟨#[]⟩, ⟨#[]⟩, ⟨#[]⟩, ⟨#[]⟩, ⟨#[]⟩, ⟨#[]⟩, ⟨#[]⟩, ⟨#[]⟩, ⟨#[]⟩, ⟨#[]⟩, ⟨#[]⟩, ⟨#[]⟩, ⟨#[]⟩, ⟨#[105, 51, 50, 46, 119, 114, 97, 112, 95, 105, 54, 52]⟩, ⟨#[]⟩, ⟨#[]⟩, ⟨#[]⟩, ⟨#[]⟩, ⟨#[105, 54, 52, 46, 101, 120, 116, 101, 110, 100, 95, 105, 51, 50, 95, 115]⟩, ⟨#[105, 54, 52, 46, 101, 120, 116, 101, 110, 100, 95, 105, 51, 50, 95, 117]⟩, ⟨#[]⟩, ⟨#[]⟩, ⟨#[]⟩, ⟨#[]⟩, ⟨#[]⟩, ⟨#[]⟩, ⟨#[]⟩, ⟨#[]⟩, ⟨#[]⟩, ⟨#[]⟩, ⟨#[]⟩, ⟨#[]⟩, ⟨#[]⟩, ⟨#[]⟩, ⟨#[]⟩, ⟨#[]⟩, ⟨#[]⟩, ⟨#[]⟩, ⟨#[105, 51, 50, 46, 101, 120, 116, 101, 110, 100, 56, 95, 115]⟩, ⟨#[105, 51, 50, 46, 101, 120, 116, 101, 110, 100, 49, 54, 95, 115]⟩, ⟨#[105, 54, 52, 46, 101, 120, 116, 101, 110, 100, 56, 95, 115]⟩, ⟨#[105, 54, 52, 46, 101, 120, 116, 101, 110, 100, 49, 54, 95, 115]⟩, ⟨#[105, 54, 52, 46, 101, 120, 116, 101, 110, 100, 51, 50, 95, 115]⟩]

def refForm (c : Int) : Int :=
  if 2 ≤ c ∧ c ≤ 4 then 1 else if c = 12 ∨ c = 13 then 2 else if c = 14 then 3 else if c = 16 then 4 else if c = 17 then 5 else if 32 ≤ c ∧ c ≤ 34 then 6 else if c = 35 ∨ c = 36 then 7
  else if 40 ≤ c ∧ c ≤ 62 then 8 else if c = 63 ∨ c = 64 ∨ c = 64523 then 9 else if c = 64522 then 10 else if c = 65 ∨ c = 66 then 11 else 0
def refForeign (c : Int) : Bool :=
  if c = 28 ∨ c = 37 ∨ c = 38 ∨ c = 42 ∨ c = 43 ∨ c = 56 ∨ c = 57 ∨ c = 67 ∨ c = 68 ∨ c = 208 ∨ c = 209 ∨ c = 210 ∨ c = 253 then true
  else if (91 ≤ c ∧ c ≤ 102) ∨ (139 ≤ c ∧ c ≤ 166) ∨ (168 ≤ c ∧ c ≤ 171) ∨ (174 ≤ c ∧ c ≤ 191) ∨ (64512 ≤ c ∧ c ≤ 64521) ∨ (64524 ≤ c ∧ c ≤ 64529) then true else false

set_option maxHeartbeats 1600000 in
theorem refForm_any (c : Int) (w : World) (h1 : -9223372036854775808 ≤ c) (h2 : c ≤ 9223372036854775807) :
    Calls Tryz.prog 30 #[.int .i64 c] w fun e w' => e = .returned (.int .i64 (refForm c)) ∧ w = w' := by
  have hcase : c ≤ 1 ∨ (2 ≤ c ∧ c ≤ 4) ∨ (5 ≤ c ∧ c ≤ 11) ∨ c = 12 ∨ c = 13 ∨ c = 14 ∨ c = 15 ∨ c = 16 ∨ c = 17 ∨ (18 ≤ c ∧ c ≤ 31) ∨ (32 ≤ c ∧ c ≤ 34) ∨ c = 35 ∨ c = 36 ∨ (37 ≤ c ∧ c ≤ 39) ∨ (40 ≤ c ∧ c ≤ 62) ∨ c = 63 ∨ c = 64 ∨ c = 65 ∨ c = 66 ∨ (67 ≤ c ∧ c ≤ 64521) ∨ c = 64522 ∨ c = 64523 ∨ 64524 ≤ c := by omega
  rcases hcase with g1 | ⟨g1, g2⟩ | ⟨g1, g2⟩ | rfl | rfl | rfl | rfl | rfl | rfl | ⟨g1, g2⟩ | ⟨g1, g2⟩ | rfl | rfl | ⟨g1, g2⟩ | ⟨g1, g2⟩ | rfl | rfl | rfl | rfl | ⟨g1, g2⟩ | rfl | rfl | g1
  · have hv : refForm c = 0 := by
      unfold refForm; repeat' (first | rfl | rw [if_pos (by omega)] | rw [if_neg (by omega)])
    rw [hv]
    have t0 : decide ((2 : Int) ≤ c) = false := by simp; omega
    have t1 : decide (c ≤ (4 : Int)) = true := by simp; omega
    have t2 : (c == 12) = false := by simp; omega
    have t3 : (c == 13) = false := by simp; omega
    have t4 : (c == 14) = false := by simp; omega
    have t5 : (c == 16) = false := by simp; omega
    have t6 : (c == 17) = false := by simp; omega
    have t7 : decide ((32 : Int) ≤ c) = false := by simp; omega
    have t8 : decide (c ≤ (34 : Int)) = true := by simp; omega
    have t9 : (c == 35) = false := by simp; omega
    have t10 : (c == 36) = false := by simp; omega
    have t11 : decide ((40 : Int) ≤ c) = false := by simp; omega
    have t12 : decide (c ≤ (62 : Int)) = true := by simp; omega
    have t13 : (c == 63) = false := by simp; omega
    have t14 : (c == 64) = false := by simp; omega
    have t15 : (c == 64523) = false := by simp; omega
    have t16 : (c == 64522) = false := by simp; omega
    have t17 : (c == 65) = false := by simp; omega
    have t18 : (c == 66) = false := by simp; omega
    clear hv h1 h2 g1
    go_enter Tryz.func30, Tryz.ntmps30
    go_wp2_with fail
    go_ret
    exact ⟨rfl, rfl⟩
  · have hv : refForm c = 1 := by
      unfold refForm; repeat' (first | rfl | rw [if_pos (by omega)] | rw [if_neg (by omega)])
    rw [hv]
    have t0 : decide ((2 : Int) ≤ c) = true := by simp; omega
    have t1 : decide (c ≤ (4 : Int)) = true := by simp; omega
    have t2 : (c == 12) = false := by simp; omega
    have t3 : (c == 13) = false := by simp; omega
    have t4 : (c == 14) = false := by simp; omega
    have t5 : (c == 16) = false := by simp; omega
    have t6 : (c == 17) = false := by simp; omega
    have t7 : decide ((32 : Int) ≤ c) = false := by simp; omega
    have t8 : decide (c ≤ (34 : Int)) = true := by simp; omega
    have t9 : (c == 35) = false := by simp; omega
    have t10 : (c == 36) = false := by simp; omega
    have t11 : decide ((40 : Int) ≤ c) = false := by simp; omega
    have t12 : decide (c ≤ (62 : Int)) = true := by simp; omega
    have t13 : (c == 63) = false := by simp; omega
    have t14 : (c == 64) = false := by simp; omega
    have t15 : (c == 64523) = false := by simp; omega
    have t16 : (c == 64522) = false := by simp; omega
    have t17 : (c == 65) = false := by simp; omega
    have t18 : (c == 66) = false := by simp; omega
    clear hv h1 h2 g1 g2
    go_enter Tryz.func30, Tryz.ntmps30
    go_wp2_with fail
    go_ret
    exact ⟨rfl, rfl⟩
  · have hv : refForm c = 0 := by
      unfold refForm; repeat' (first | rfl | rw [if_pos (by omega)] | rw [if_neg (by omega)])
    rw [hv]
    have t0 : decide ((2 : Int) ≤ c) = true := by simp; omega
    have t1 : decide (c ≤ (4 : Int)) = false := by simp; omega
    have t2 : (c == 12) = false := by simp; omega
    have t3 : (c == 13) = false := by simp; omega
    have t4 : (c == 14) = false := by simp; omega
    have t5 : (c == 16) = false := by simp; omega
    have t6 : (c == 17) = false := by simp; omega
    have t7 : decide ((32 : Int) ≤ c) = false := by simp; omega
    have t8 : decide (c ≤ (34 : Int)) = true := by simp; omega
    have t9 : (c == 35) = false := by simp; omega
    have t10 : (c == 36) = false := by simp; omega
    have t11 : decide ((40 : Int) ≤ c) = false := by simp; omega
    have t12 : decide (c ≤ (62 : Int)) = true := by simp; omega
    have t13 : (c == 63) = false := by simp; omega
    have t14 : (c == 64) = false := by simp; omega
    have t15 : (c == 64523) = false := by simp; omega
    have t16 : (c == 64522) = false := by simp; omega
    have t17 : (c == 65) = false := by simp; omega
    have t18 : (c == 66) = false := by simp; omega
    clear hv h1 h2 g1 g2
    go_enter Tryz.func30, Tryz.ntmps30
    go_wp2_with fail
    go_ret
    exact ⟨rfl, rfl⟩
  · have hv : refForm (12) = 2 := by
      unfold refForm; repeat' (first | rfl | rw [if_pos (by omega)] | rw [if_neg (by omega)])
    rw [hv]
    clear hv
    go_enter Tryz.func30, Tryz.ntmps30
    go_wp2_with fail
    go_ret
    exact ⟨rfl, rfl⟩
  · have hv : refForm (13) = 2 := by
      unfold refForm; repeat' (first | rfl | rw [if_pos (by omega)] | rw [if_neg (by omega)])
    rw [hv]
    clear hv
    go_enter Tryz.func30, Tryz.ntmps30
    go_wp2_with fail
    go_ret
    exact ⟨rfl, rfl⟩
  · have hv : refForm (14) = 3 := by
      unfold refForm; repeat' (first | rfl | rw [if_pos (by omega)] | rw [if_neg (by omega)])
    rw [hv]
    clear hv
    go_enter Tryz.func30, Tryz.ntmps30
    go_wp2_with fail
    go_ret
    exact ⟨rfl, rfl⟩
  · have hv : refForm (15) = 0 := by
      unfold refForm; repeat' (first | rfl | rw [if_pos (by omega)] | rw [if_neg (by omega)])
    rw [hv]
    clear hv
    go_enter Tryz.func30, Tryz.ntmps30
    go_wp2_with fail
    go_ret
    exact ⟨rfl, rfl⟩
  · have hv : refForm (16) = 4 := by
      unfold refForm; repeat' (first | rfl | rw [if_pos (by omega)] | rw [if_neg (by omega)])
    rw [hv]
    clear hv
    go_enter Tryz.func30, Tryz.ntmps30
    go_wp2_with fail
    go_ret
    exact ⟨rfl, rfl⟩
  · have hv : refForm (17) = 5 := by
      unfold refForm; repeat' (first | rfl | rw [if_pos (by omega)] | rw [if_neg (by omega)])
    rw [hv]
    clear hv
    go_enter Tryz.func30, Tryz.ntmps30
    go_wp2_with fail
    go_ret
    exact ⟨rfl, rfl⟩
  · have hv : refForm c = 0 := by
      unfold refForm; repeat' (first | rfl | rw [if_pos (by omega)] | rw [if_neg (by omega)])
    rw [hv]
    have t0 : decide ((2 : Int) ≤ c) = true := by simp; omega
    have t1 : decide (c ≤ (4 : Int)) = false := by simp; omega
    have t2 : (c == 12) = false := by simp; omega
    have t3 : (c == 13) = false := by simp; omega
    have t4 : (c == 14) = false := by simp; omega
    have t5 : (c == 16) = false := by simp; omega
    have t6 : (c == 17) = false := by simp; omega
    have t7 : decide ((32 : Int) ≤ c) = false := by simp; omega
    have t8 : decide (c ≤ (34 : Int)) = true := by simp; omega
    have t9 : (c == 35) = false := by simp; omega
    have t10 : (c == 36) = false := by simp; omega
    have t11 : decide ((40 : Int) ≤ c) = false := by simp; omega
    have t12 : decide (c ≤ (62 : Int)) = true := by simp; omega
    have t13 : (c == 63) = false := by simp; omega
    have t14 : (c == 64) = false := by simp; omega
    have t15 : (c == 64523) = false := by simp; omega
    have t16 : (c == 64522) = false := by simp; omega
    have t17 : (c == 65) = false := by simp; omega
    have t18 : (c == 66) = false := by simp; omega
    clear hv h1 h2 g1 g2
    go_enter Tryz.func30, Tryz.ntmps30
    go_wp2_with fail
    go_ret
    exact ⟨rfl, rfl⟩
  · have hv : refForm c = 6 := by
      unfold refForm; repeat' (first | rfl | rw [if_pos (by omega)] | rw [if_neg (by omega)])
    rw [hv]
    have t0 : decide ((2 : Int) ≤ c) = true := by simp; omega
    have t1 : decide (c ≤ (4 : Int)) = false := by simp; omega
    have t2 : (c == 12) = false := by simp; omega
    have t3 : (c == 13) = false := by simp; omega
    have t4 : (c == 14) = false := by simp; omega
    have t5 : (c == 16) = false := by simp; omega
    have t6 : (c == 17) = false := by simp; omega
    have t7 : decide ((32 : Int) ≤ c) = true := by simp; omega
    have t8 : decide (c ≤ (34 : Int)) = true := by simp; omega
    have t9 : (c == 35) = false := by simp; omega
    have t10 : (c == 36) = false := by simp; omega
    have t11 : decide ((40 : Int) ≤ c) = false := by simp; omega
    have t12 : decide (c ≤ (62 : Int)) = true := by simp; omega
    have t13 : (c == 63) = false := by simp; omega
    have t14 : (c == 64) = false := by simp; omega
    have t15 : (c == 64523) = false := by simp; omega
    have t16 : (c == 64522) = false := by simp; omega
    have t17 : (c == 65) = false := by simp; omega
    have t18 : (c == 66) = false := by simp; omega
    clear hv h1 h2 g1 g2
    go_enter Tryz.func30, Tryz.ntmps30
    go_wp2_with fail
    go_ret
    exact ⟨rfl, rfl⟩
  · have hv : refForm (35) = 7 := by
      unfold refForm; repeat' (first | rfl | rw [if_pos (by omega)] | rw [if_neg (by omega)])
    rw [hv]
    clear hv
    go_enter Tryz.func30, Tryz.ntmps30
    go_wp2_with fail
    go_ret
    exact ⟨rfl, rfl⟩
  · have hv : refForm (36) = 7 := by
      unfold refForm; repeat' (first | rfl | rw [if_pos (by omega)] | rw [if_neg (by omega)])
    rw [hv]
    clear hv
    go_enter Tryz.func30, Tryz.ntmps30
    go_wp2_with fail
    go_ret
    exact ⟨rfl, rfl⟩
  · have hv : refForm c = 0 := by
      unfold refForm; repeat' (first | rfl | rw [if_pos (by omega)] | rw [if_neg (by omega)])
    rw [hv]
    have t0 : decide ((2 : Int) ≤ c) = true := by simp; omega
    have t1 : decide (c ≤ (4 : Int)) = false := by simp; omega
    have t2 : (c == 12) = false := by simp; omega
    have t3 : (c == 13) = false := by simp; omega
    have t4 : (c == 14) = false := by simp; omega
    have t5 : (c == 16) = false := by simp; omega
    have t6 : (c == 17) = false := by simp; omega
    have t7 : decide ((32 : Int) ≤ c) = true := by simp; omega
    have t8 : decide (c ≤ (34 : Int)) = false := by simp; omega
    have t9 : (c == 35) = false := by simp; omega
    have t10 : (c == 36) = false := by simp; omega
    have t11 : decide ((40 : Int) ≤ c) = false := by simp; omega
    have t12 : decide (c ≤ (62 : Int)) = true := by simp; omega
    have t13 : (c == 63) = false := by simp; omega
    have t14 : (c == 64) = false := by simp; omega
    have t15 : (c == 64523) = false := by simp; omega
    have t16 : (c == 64522) = false := by simp; omega
    have t17 : (c == 65) = false := by simp; omega
    have t18 : (c == 66) = false := by simp; omega
    clear hv h1 h2 g1 g2
    go_enter Tryz.func30, Tryz.ntmps30
    go_wp2_with fail
    go_ret
    exact ⟨rfl, rfl⟩
  · have hv : refForm c = 8 := by
      unfold refForm; repeat' (first | rfl | rw [if_pos (by omega)] | rw [if_neg (by omega)])
    rw [hv]
    have t0 : decide ((2 : Int) ≤ c) = true := by simp; omega
    have t1 : decide (c ≤ (4 : Int)) = false := by simp; omega
    have t2 : (c == 12) = false := by simp; omega
    have t3 : (c == 13) = false := by simp; omega
    have t4 : (c == 14) = false := by simp; omega
    have t5 : (c == 16) = false := by simp; omega
    have t6 : (c == 17) = false := by simp; omega
    have t7 : decide ((32 : Int) ≤ c) = true := by simp; omega
    have t8 : decide (c ≤ (34 : Int)) = false := by simp; omega
    have t9 : (c == 35) = false := by simp; omega
    have t10 : (c == 36) = false := by simp; omega
    have t11 : decide ((40 : Int) ≤ c) = true := by simp; omega
    have t12 : decide (c ≤ (62 : Int)) = true := by simp; omega
    have t13 : (c == 63) = false := by simp; omega
    have t14 : (c == 64) = false := by simp; omega
    have t15 : (c == 64523) = false := by simp; omega
    have t16 : (c == 64522) = false := by simp; omega
    have t17 : (c == 65) = false := by simp; omega
    have t18 : (c == 66) = false := by simp; omega
    clear hv h1 h2 g1 g2
    go_enter Tryz.func30, Tryz.ntmps30
    go_wp2_with fail
    go_ret
    exact ⟨rfl, rfl⟩
  · have hv : refForm (63) = 9 := by
      unfold refForm; repeat' (first | rfl | rw [if_pos (by omega)] | rw [if_neg (by omega)])
    rw [hv]
    clear hv
    go_enter Tryz.func30, Tryz.ntmps30
    go_wp2_with fail
    go_ret
    exact ⟨rfl, rfl⟩
  · have hv : refForm (64) = 9 := by
      unfold refForm; repeat' (first | rfl | rw [if_pos (by omega)] | rw [if_neg (by omega)])
    rw [hv]
    clear hv
    go_enter Tryz.func30, Tryz.ntmps30
    go_wp2_with fail
    go_ret
    exact ⟨rfl, rfl⟩
  · have hv : refForm (65) = 11 := by
      unfold refForm; repeat' (first | rfl | rw [if_pos (by omega)] | rw [if_neg (by omega)])
    rw [hv]
    clear hv
    go_enter Tryz.func30, Tryz.ntmps30
    go_wp2_with fail
    go_ret
    exact ⟨rfl, rfl⟩
  · have hv : refForm (66) = 11 := by
      unfold refForm; repeat' (first | rfl | rw [if_pos (by omega)] | rw [if_neg (by omega)])
    rw [hv]
    clear hv
    go_enter Tryz.func30, Tryz.ntmps30
    go_wp2_with fail
    go_ret
    exact ⟨rfl, rfl⟩
  · have hv : refForm c = 0 := by
      unfold refForm; repeat' (first | rfl | rw [if_pos (by omega)] | rw [if_neg (by omega)])
    rw [hv]
    have t0 : decide ((2 : Int) ≤ c) = true := by simp; omega
    have t1 : decide (c ≤ (4 : Int)) = false := by simp; omega
    have t2 : (c == 12) = false := by simp; omega
    have t3 : (c == 13) = false := by simp; omega
    have t4 : (c == 14) = false := by simp; omega
    have t5 : (c == 16) = false := by simp; omega
    have t6 : (c == 17) = false := by simp; omega
    have t7 : decide ((32 : Int) ≤ c) = true := by simp; omega
    have t8 : decide (c ≤ (34 : Int)) = false := by simp; omega
    have t9 : (c == 35) = false := by simp; omega
    have t10 : (c == 36) = false := by simp; omega
    have t11 : decide ((40 : Int) ≤ c) = true := by simp; omega
    have t12 : decide (c ≤ (62 : Int)) = false := by simp; omega
    have t13 : (c == 63) = false := by simp; omega
    have t14 : (c == 64) = false := by simp; omega
    have t15 : (c == 64523) = false := by simp; omega
    have t16 : (c == 64522) = false := by simp; omega
    have t17 : (c == 65) = false := by simp; omega
    have t18 : (c == 66) = false := by simp; omega
    clear hv h1 h2 g1 g2
    go_enter Tryz.func30, Tryz.ntmps30
    go_wp2_with fail
    go_ret
    exact ⟨rfl, rfl⟩
  · have hv : refForm (64522) = 10 := by
      unfold refForm; repeat' (first | rfl | rw [if_pos (by omega)] | rw [if_neg (by omega)])
    rw [hv]
    clear hv
    go_enter Tryz.func30, Tryz.ntmps30
    go_wp2_with fail
    go_ret
    exact ⟨rfl, rfl⟩
  · have hv : refForm (64523) = 9 := by
      unfold refForm; repeat' (first | rfl | rw [if_pos (by omega)] | rw [if_neg (by omega)])
    rw [hv]
    clear hv
    go_enter Tryz.func30, Tryz.ntmps30
    go_wp2_with fail
    go_ret
    exact ⟨rfl, rfl⟩
  · have hv : refForm c = 0 := by
      unfold refForm; repeat' (first | rfl | rw [if_pos (by omega)] | rw [if_neg (by omega)])
    rw [hv]
    have t0 : decide ((2 : Int) ≤ c) = true := by simp; omega
    have t1 : decide (c ≤ (4 : Int)) = false := by simp; omega
    have t2 : (c == 12) = false := by simp; omega
    have t3 : (c == 13) = false := by simp; omega
    have t4 : (c == 14) = false := by simp; omega
    have t5 : (c == 16) = false := by simp; omega
    have t6 : (c == 17) = false := by simp; omega
    have t7 : decide ((32 : Int) ≤ c) = true := by simp; omega
    have t8 : decide (c ≤ (34 : Int)) = false := by simp; omega
    have t9 : (c == 35) = false := by simp; omega
    have t10 : (c == 36) = false := by simp; omega
    have t11 : decide ((40 : Int) ≤ c) = true := by simp; omega
    have t12 : decide (c ≤ (62 : Int)) = false := by simp; omega
    have t13 : (c == 63) = false := by simp; omega
    have t14 : (c == 64) = false := by simp; omega
    have t15 : (c == 64523) = false := by simp; omega
    have t16 : (c == 64522) = false := by simp; omega
    have t17 : (c == 65) = false := by simp; omega
    have t18 : (c == 66) = false := by simp; omega
    clear hv h1 h2 g1
    go_enter Tryz.func30, Tryz.ntmps30
    go_wp2_with fail
    go_ret
    exact ⟨rfl, rfl⟩

set_option maxHeartbeats 1600000 in
theorem refForeign_any (c : Int) (w : World) (h1 : -9223372036854775808 ≤ c) (h2 : c ≤ 9223372036854775807) :
    Calls Tryz.prog 60 #[.int .i64 c] w fun e w' => e = .returned (.bool (refForeign c)) ∧ w = w' := by
  have hcase : c ≤ 27 ∨ c = 28 ∨ (29 ≤ c ∧ c ≤ 36) ∨ c = 37 ∨ c = 38 ∨ (39 ≤ c ∧ c ≤ 41) ∨ c = 42 ∨ c = 43 ∨ (44 ≤ c ∧ c ≤ 55) ∨ c = 56 ∨ c = 57 ∨ (58 ≤ c ∧ c ≤ 66) ∨ c = 67 ∨ c = 68 ∨ (69 ≤ c ∧ c ≤ 90) ∨ (91 ≤ c ∧ c ≤ 102) ∨ (103 ≤ c ∧ c ≤ 138) ∨ (139 ≤ c ∧ c ≤ 166) ∨ c = 167 ∨ (168 ≤ c ∧ c ≤ 171) ∨ (172 ≤ c ∧ c ≤ 173) ∨ (174 ≤ c ∧ c ≤ 191) ∨ (192 ≤ c ∧ c ≤ 207) ∨ c = 208 ∨ c = 209 ∨ c = 210 ∨ (211 ≤ c ∧ c ≤ 252) ∨ c = 253 ∨ (254 ≤ c ∧ c ≤ 64511) ∨ (64512 ≤ c ∧ c ≤ 64521) ∨ (64522 ≤ c ∧ c ≤ 64523) ∨ (64524 ≤ c ∧ c ≤ 64529) ∨ 64530 ≤ c := by omega
  rcases hcase with g1 | rfl | ⟨g1, g2⟩ | rfl | rfl | ⟨g1, g2⟩ | rfl | rfl | ⟨g1, g2⟩ | rfl | rfl | ⟨g1, g2⟩ | rfl | rfl | ⟨g1, g2⟩ | ⟨g1, g2⟩ | ⟨g1, g2⟩ | ⟨g1, g2⟩ | rfl | ⟨g1, g2⟩ | ⟨g1, g2⟩ | ⟨g1, g2⟩ | ⟨g1, g2⟩ | rfl | rfl | rfl | ⟨g1, g2⟩ | rfl | ⟨g1, g2⟩ | ⟨g1, g2⟩ | ⟨g1, g2⟩ | ⟨g1, g2⟩ | g1
  · have hv : refForeign c = false := by
      unfold refForeign; repeat' (first | rfl | rw [if_pos (by omega)] | rw [if_neg (by omega)])
    rw [hv]
    have t0 : (c == 28) = false := by simp; omega
    have t1 : (c == 37) = false := by simp; omega
    have t2 : (c == 38) = false := by simp; omega
    have t3 : (c == 42) = false := by simp; omega
    have t4 : (c == 43) = false := by simp; omega
    have t5 : (c == 56) = false := by simp; omega
    have t6 : (c == 57) = false := by simp; omega
    have t7 : (c == 67) = false := by simp; omega
    have t8 : (c == 68) = false := by simp; omega
    have t9 : (c == 208) = false := by simp; omega
    have t10 : (c == 209) = false := by simp; omega
    have t11 : (c == 210) = false := by simp; omega
    have t12 : (c == 253) = false := by simp; omega
    have t13 : decide ((91 : Int) ≤ c) = false := by simp; omega
    have t14 : decide (c ≤ (102 : Int)) = true := by simp; omega
    have t15 : decide ((139 : Int) ≤ c) = false := by simp; omega
    have t16 : decide (c ≤ (166 : Int)) = true := by simp; omega
    have t17 : decide ((168 : Int) ≤ c) = false := by simp; omega
    have t18 : decide (c ≤ (171 : Int)) = true := by simp; omega
    have t19 : decide ((174 : Int) ≤ c) = false := by simp; omega
    have t20 : decide (c ≤ (191 : Int)) = true := by simp; omega
    have t21 : decide ((64512 : Int) ≤ c) = false := by simp; omega
    have t22 : decide (c ≤ (64521 : Int)) = true := by simp; omega
    have t23 : decide ((64524 : Int) ≤ c) = false := by simp; omega
    have t24 : decide (c ≤ (64529 : Int)) = true := by simp; omega
    clear hv h1 h2 g1
    go_enter Tryz.func60, Tryz.ntmps60
    go_wp2_with fail
    go_ret
    exact ⟨rfl, rfl⟩
  · have hv : refForeign (28) = true := by
      unfold refForeign; repeat' (first | rfl | rw [if_pos (by omega)] | rw [if_neg (by omega)])
    rw [hv]
    clear hv
    go_enter Tryz.func60, Tryz.ntmps60
    go_wp2_with fail
    go_ret
    exact ⟨rfl, rfl⟩
  · have hv : refForeign c = false := by
      unfold refForeign; repeat' (first | rfl | rw [if_pos (by omega)] | rw [if_neg (by omega)])
    rw [hv]
    have t0 : (c == 28) = false := by simp; omega
    have t1 : (c == 37) = false := by simp; omega
    have t2 : (c == 38) = false := by simp; omega
    have t3 : (c == 42) = false := by simp; omega
    have t4 : (c == 43) = false := by simp; omega
    have t5 : (c == 56) = false := by simp; omega
    have t6 : (c == 57) = false := by simp; omega
    have t7 : (c == 67) = false := by simp; omega
    have t8 : (c == 68) = false := by simp; omega
    have t9 : (c == 208) = false := by simp; omega
    have t10 : (c == 209) = false := by simp; omega
    have t11 : (c == 210) = false := by simp; omega
    have t12 : (c == 253) = false := by simp; omega
    have t13 : decide ((91 : Int) ≤ c) = false := by simp; omega
    have t14 : decide (c ≤ (102 : Int)) = true := by simp; omega
    have t15 : decide ((139 : Int) ≤ c) = false := by simp; omega
    have t16 : decide (c ≤ (166 : Int)) = true := by simp; omega
    have t17 : decide ((168 : Int) ≤ c) = false := by simp; omega
    have t18 : decide (c ≤ (171 : Int)) = true := by simp; omega
    have t19 : decide ((174 : Int) ≤ c) = false := by simp; omega
    have t20 : decide (c ≤ (191 : Int)) = true := by simp; omega
    have t21 : decide ((64512 : Int) ≤ c) = false := by simp; omega
    have t22 : decide (c ≤ (64521 : Int)) = true := by simp; omega
    have t23 : decide ((64524 : Int) ≤ c) = false := by simp; omega
    have t24 : decide (c ≤ (64529 : Int)) = true := by simp; omega
    clear hv h1 h2 g1 g2
    go_enter Tryz.func60, Tryz.ntmps60
    go_wp2_with fail
    go_ret
    exact ⟨rfl, rfl⟩
  · have hv : refForeign (37) = true := by
      unfold refForeign; repeat' (first | rfl | rw [if_pos (by omega)] | rw [if_neg (by omega)])
    rw [hv]
    clear hv
    go_enter Tryz.func60, Tryz.ntmps60
    go_wp2_with fail
    go_ret
    exact ⟨rfl, rfl⟩
  · have hv : refForeign (38) = true := by
      unfold refForeign; repeat' (first | rfl | rw [if_pos (by omega)] | rw [if_neg (by omega)])
    rw [hv]
    clear hv
    go_enter Tryz.func60, Tryz.ntmps60
    go_wp2_with fail
    go_ret
    exact ⟨rfl, rfl⟩
  · have hv : refForeign c = false := by
      unfold refForeign; repeat' (first | rfl | rw [if_pos (by omega)] | rw [if_neg (by omega)])
    rw [hv]
    have t0 : (c == 28) = false := by simp; omega
    have t1 : (c == 37) = false := by simp; omega
    have t2 : (c == 38) = false := by simp; omega
    have t3 : (c == 42) = false := by simp; omega
    have t4 : (c == 43) = false := by simp; omega
    have t5 : (c == 56) = false := by simp; omega
    have t6 : (c == 57) = false := by simp; omega
    have t7 : (c == 67) = false := by simp; omega
    have t8 : (c == 68) = false := by simp; omega
    have t9 : (c == 208) = false := by simp; omega
    have t10 : (c == 209) = false := by simp; omega
    have t11 : (c == 210) = false := by simp; omega
    have t12 : (c == 253) = false := by simp; omega
    have t13 : decide ((91 : Int) ≤ c) = false := by simp; omega
    have t14 : decide (c ≤ (102 : Int)) = true := by simp; omega
    have t15 : decide ((139 : Int) ≤ c) = false := by simp; omega
    have t16 : decide (c ≤ (166 : Int)) = true := by simp; omega
    have t17 : decide ((168 : Int) ≤ c) = false := by simp; omega
    have t18 : decide (c ≤ (171 : Int)) = true := by simp; omega
    have t19 : decide ((174 : Int) ≤ c) = false := by simp; omega
    have t20 : decide (c ≤ (191 : Int)) = true := by simp; omega
    have t21 : decide ((64512 : Int) ≤ c) = false := by simp; omega
    have t22 : decide (c ≤ (64521 : Int)) = true := by simp; omega
    have t23 : decide ((64524 : Int) ≤ c) = false := by simp; omega
    have t24 : decide (c ≤ (64529 : Int)) = true := by simp; omega
    clear hv h1 h2 g1 g2
    go_enter Tryz.func60, Tryz.ntmps60
    go_wp2_with fail
    go_ret
    exact ⟨rfl, rfl⟩
  · have hv : refForeign (42) = true := by
      unfold refForeign; repeat' (first | rfl | rw [if_pos (by omega)] | rw [if_neg (by omega)])
    rw [hv]
    clear hv
    go_enter Tryz.func60, Tryz.ntmps60
    go_wp2_with fail
    go_ret
    exact ⟨rfl, rfl⟩
  · have hv : refForeign (43) = true := by
      unfold refForeign; repeat' (first | rfl | rw [if_pos (by omega)] | rw [if_neg (by omega)])
    rw [hv]
    clear hv
    go_enter Tryz.func60, Tryz.ntmps60
    go_wp2_with fail
    go_ret
    exact ⟨rfl, rfl⟩
  · have hv : refForeign c = false := by
      unfold refForeign; repeat' (first | rfl | rw [if_pos (by omega)] | rw [if_neg (by omega)])
    rw [hv]
    have t0 : (c == 28) = false := by simp; omega
    have t1 : (c == 37) = false := by simp; omega
    have t2 : (c == 38) = false := by simp; omega
    have t3 : (c == 42) = false := by simp; omega
    have t4 : (c == 43) = false := by simp; omega
    have t5 : (c == 56) = false := by simp; omega
    have t6 : (c == 57) = false := by simp; omega
    have t7 : (c == 67) = false := by simp; omega
    have t8 : (c == 68) = false := by simp; omega
    have t9 : (c == 208) = false := by simp; omega
    have t10 : (c == 209) = false := by simp; omega
    have t11 : (c == 210) = false := by simp; omega
    have t12 : (c == 253) = false := by simp; omega
    have t13 : decide ((91 : Int) ≤ c) = false := by simp; omega
    have t14 : decide (c ≤ (102 : Int)) = true := by simp; omega
    have t15 : decide ((139 : Int) ≤ c) = false := by simp; omega
    have t16 : decide (c ≤ (166 : Int)) = true := by simp; omega
    have t17 : decide ((168 : Int) ≤ c) = false := by simp; omega
    have t18 : decide (c ≤ (171 : Int)) = true := by simp; omega
    have t19 : decide ((174 : Int) ≤ c) = false := by simp; omega
    have t20 : decide (c ≤ (191 : Int)) = true := by simp; omega
    have t21 : decide ((64512 : Int) ≤ c) = false := by simp; omega
    have t22 : decide (c ≤ (64521 : Int)) = true := by simp; omega
    have t23 : decide ((64524 : Int) ≤ c) = false := by simp; omega
    have t24 : decide (c ≤ (64529 : Int)) = true := by simp; omega
    clear hv h1 h2 g1 g2
    go_enter Tryz.func60, Tryz.ntmps60
    go_wp2_with fail
    go_ret
    exact ⟨rfl, rfl⟩
  · have hv : refForeign (56) = true := by
      unfold refForeign; repeat' (first | rfl | rw [if_pos (by omega)] | rw [if_neg (by omega)])
    rw [hv]
    clear hv
    go_enter Tryz.func60, Tryz.ntmps60
    go_wp2_with fail
    go_ret
    exact ⟨rfl, rfl⟩
  · have hv : refForeign (57) = true := by
      unfold refForeign; repeat' (first | rfl | rw [if_pos (by omega)] | rw [if_neg (by omega)])
    rw [hv]
    clear hv
    go_enter Tryz.func60, Tryz.ntmps60
    go_wp2_with fail
    go_ret
    exact ⟨rfl, rfl⟩
  · have hv : refForeign c = false := by
      unfold refForeign; repeat' (first | rfl | rw [if_pos (by omega)] | rw [if_neg (by omega)])
    rw [hv]
    have t0 : (c == 28) = false := by simp; omega
    have t1 : (c == 37) = false := by simp; omega
    have t2 : (c == 38) = false := by simp; omega
    have t3 : (c == 42) = false := by simp; omega
    have t4 : (c == 43) = false := by simp; omega
    have t5 : (c == 56) = false := by simp; omega
    have t6 : (c == 57) = false := by simp; omega
    have t7 : (c == 67) = false := by simp; omega
    have t8 : (c == 68) = false := by simp; omega
    have t9 : (c == 208) = false := by simp; omega
    have t10 : (c == 209) = false := by simp; omega
    have t11 : (c == 210) = false := by simp; omega
    have t12 : (c == 253) = false := by simp; omega
    have t13 : decide ((91 : Int) ≤ c) = false := by simp; omega
    have t14 : decide (c ≤ (102 : Int)) = true := by simp; omega
    have t15 : decide ((139 : Int) ≤ c) = false := by simp; omega
    have t16 : decide (c ≤ (166 : Int)) = true := by simp; omega
    have t17 : decide ((168 : Int) ≤ c) = false := by simp; omega
    have t18 : decide (c ≤ (171 : Int)) = true := by simp; omega
    have t19 : decide ((174 : Int) ≤ c) = false := by simp; omega
    have t20 : decide (c ≤ (191 : Int)) = true := by simp; omega
    have t21 : decide ((64512 : Int) ≤ c) = false := by simp; omega
    have t22 : decide (c ≤ (64521 : Int)) = true := by simp; omega
    have t23 : decide ((64524 : Int) ≤ c) = false := by simp; omega
    have t24 : decide (c ≤ (64529 : Int)) = true := by simp; omega
    clear hv h1 h2 g1 g2
    go_enter Tryz.func60, Tryz.ntmps60
    go_wp2_with fail
    go_ret
    exact ⟨rfl, rfl⟩
  · have hv : refForeign (67) = true := by
      unfold refForeign; repeat' (first | rfl | rw [if_pos (by omega)] | rw [if_neg (by omega)])
    rw [hv]
    clear hv
    go_enter Tryz.func60, Tryz.ntmps60
    go_wp2_with fail
    go_ret
    exact ⟨rfl, rfl⟩
  · have hv : refForeign (68) = true := by
      unfold refForeign; repeat' (first | rfl | rw [if_pos (by omega)] | rw [if_neg (by omega)])
    rw [hv]
    clear hv
    go_enter Tryz.func60, Tryz.ntmps60
    go_wp2_with fail
    go_ret
    exact ⟨rfl, rfl⟩
  · have hv : refForeign c = false := by
      unfold refForeign; repeat' (first | rfl | rw [if_pos (by omega)] | rw [if_neg (by omega)])
    rw [hv]
    have t0 : (c == 28) = false := by simp; omega
    have t1 : (c == 37) = false := by simp; omega
    have t2 : (c == 38) = false := by simp; omega
    have t3 : (c == 42) = false := by simp; omega
    have t4 : (c == 43) = false := by simp; omega
    have t5 : (c == 56) = false := by simp; omega
    have t6 : (c == 57) = false := by simp; omega
    have t7 : (c == 67) = false := by simp; omega
    have t8 : (c == 68) = false := by simp; omega
    have t9 : (c == 208) = false := by simp; omega
    have t10 : (c == 209) = false := by simp; omega
    have t11 : (c == 210) = false := by simp; omega
    have t12 : (c == 253) = false := by simp; omega
    have t13 : decide ((91 : Int) ≤ c) = false := by simp; omega
    have t14 : decide (c ≤ (102 : Int)) = true := by simp; omega
    have t15 : decide ((139 : Int) ≤ c) = false := by simp; omega
    have t16 : decide (c ≤ (166 : Int)) = true := by simp; omega
    have t17 : decide ((168 : Int) ≤ c) = false := by simp; omega
    have t18 : decide (c ≤ (171 : Int)) = true := by simp; omega
    have t19 : decide ((174 : Int) ≤ c) = false := by simp; omega
    have t20 : decide (c ≤ (191 : Int)) = true := by simp; omega
    have t21 : decide ((64512 : Int) ≤ c) = false := by simp; omega
    have t22 : decide (c ≤ (64521 : Int)) = true := by simp; omega
    have t23 : decide ((64524 : Int) ≤ c) = false := by simp; omega
    have t24 : decide (c ≤ (64529 : Int)) = true := by simp; omega
    clear hv h1 h2 g1 g2
    go_enter Tryz.func60, Tryz.ntmps60
    go_wp2_with fail
    go_ret
    exact ⟨rfl, rfl⟩
  · have hv : refForeign c = true := by
      unfold refForeign; repeat' (first | rfl | rw [if_pos (by omega)] | rw [if_neg (by omega)])
    rw [hv]
    have t0 : (c == 28) = false := by simp; omega
    have t1 : (c == 37) = false := by simp; omega
    have t2 : (c == 38) = false := by simp; omega
    have t3 : (c == 42) = false := by simp; omega
    have t4 : (c == 43) = false := by simp; omega
    have t5 : (c == 56) = false := by simp; omega
    have t6 : (c == 57) = false := by simp; omega
    have t7 : (c == 67) = false := by simp; omega
    have t8 : (c == 68) = false := by simp; omega
    have t9 : (c == 208) = false := by simp; omega
    have t10 : (c == 209) = false := by simp; omega
    have t11 : (c == 210) = false := by simp; omega
    have t12 : (c == 253) = false := by simp; omega
    have t13 : decide ((91 : Int) ≤ c) = true := by simp; omega
    have t14 : decide (c ≤ (102 : Int)) = true := by simp; omega
    have t15 : decide ((139 : Int) ≤ c) = false := by simp; omega
    have t16 : decide (c ≤ (166 : Int)) = true := by simp; omega
    have t17 : decide ((168 : Int) ≤ c) = false := by simp; omega
    have t18 : decide (c ≤ (171 : Int)) = true := by simp; omega
    have t19 : decide ((174 : Int) ≤ c) = false := by simp; omega
    have t20 : decide (c ≤ (191 : Int)) = true := by simp; omega
    have t21 : decide ((64512 : Int) ≤ c) = false := by simp; omega
    have t22 : decide (c ≤ (64521 : Int)) = true := by simp; omega
    have t23 : decide ((64524 : Int) ≤ c) = false := by simp; omega
    have t24 : decide (c ≤ (64529 : Int)) = true := by simp; omega
    clear hv h1 h2 g1 g2
    go_enter Tryz.func60, Tryz.ntmps60
    go_wp2_with fail
    go_ret
    exact ⟨rfl, rfl⟩
  · have hv : refForeign c = false := by
      unfold refForeign; repeat' (first | rfl | rw [if_pos (by omega)] | rw [if_neg (by omega)])
    rw [hv]
    have t0 : (c == 28) = false := by simp; omega
    have t1 : (c == 37) = false := by simp; omega
    have t2 : (c == 38) = false := by simp; omega
    have t3 : (c == 42) = false := by simp; omega
    have t4 : (c == 43) = false := by simp; omega
    have t5 : (c == 56) = false := by simp; omega
    have t6 : (c == 57) = false := by simp; omega
    have t7 : (c == 67) = false := by simp; omega
    have t8 : (c == 68) = false := by simp; omega
    have t9 : (c == 208) = false := by simp; omega
    have t10 : (c == 209) = false := by simp; omega
    have t11 : (c == 210) = false := by simp; omega
    have t12 : (c == 253) = false := by simp; omega
    have t13 : decide ((91 : Int) ≤ c) = true := by simp; omega
    have t14 : decide (c ≤ (102 : Int)) = false := by simp; omega
    have t15 : decide ((139 : Int) ≤ c) = false := by simp; omega
    have t16 : decide (c ≤ (166 : Int)) = true := by simp; omega
    have t17 : decide ((168 : Int) ≤ c) = false := by simp; omega
    have t18 : decide (c ≤ (171 : Int)) = true := by simp; omega
    have t19 : decide ((174 : Int) ≤ c) = false := by simp; omega
    have t20 : decide (c ≤ (191 : Int)) = true := by simp; omega
    have t21 : decide ((64512 : Int) ≤ c) = false := by simp; omega
    have t22 : decide (c ≤ (64521 : Int)) = true := by simp; omega
    have t23 : decide ((64524 : Int) ≤ c) = false := by simp; omega
    have t24 : decide (c ≤ (64529 : Int)) = true := by simp; omega
    clear hv h1 h2 g1 g2
    go_enter Tryz.func60, Tryz.ntmps60
    go_wp2_with fail
    go_ret
    exact ⟨rfl, rfl⟩
  · have hv : refForeign c = true := by
      unfold refForeign; repeat' (first | rfl | rw [if_pos (by omega)] | rw [if_neg (by omega)])
    rw [hv]
    have t0 : (c == 28) = false := by simp; omega
    have t1 : (c == 37) = false := by simp; omega
    have t2 : (c == 38) = false := by simp; omega
    have t3 : (c == 42) = false := by simp; omega
    have t4 : (c == 43) = false := by simp; omega
    have t5 : (c == 56) = false := by simp; omega
    have t6 : (c == 57) = false := by simp; omega
    have t7 : (c == 67) = false := by simp; omega
    have t8 : (c == 68) = false := by simp; omega
    have t9 : (c == 208) = false := by simp; omega
    have t10 : (c == 209) = false := by simp; omega
    have t11 : (c == 210) = false := by simp; omega
    have t12 : (c == 253) = false := by simp; omega
    have t13 : decide ((91 : Int) ≤ c) = true := by simp; omega
    have t14 : decide (c ≤ (102 : Int)) = false := by simp; omega
    have t15 : decide ((139 : Int) ≤ c) = true := by simp; omega
    have t16 : decide (c ≤ (166 : Int)) = true := by simp; omega
    have t17 : decide ((168 : Int) ≤ c) = false := by simp; omega
    have t18 : decide (c ≤ (171 : Int)) = true := by simp; omega
    have t19 : decide ((174 : Int) ≤ c) = false := by simp; omega
    have t20 : decide (c ≤ (191 : Int)) = true := by simp; omega
    have t21 : decide ((64512 : Int) ≤ c) = false := by simp; omega
    have t22 : decide (c ≤ (64521 : Int)) = true := by simp; omega
    have t23 : decide ((64524 : Int) ≤ c) = false := by simp; omega
    have t24 : decide (c ≤ (64529 : Int)) = true := by simp; omega
    clear hv h1 h2 g1 g2
    go_enter Tryz.func60, Tryz.ntmps60
    go_wp2_with fail
    go_ret
    exact ⟨rfl, rfl⟩
  · have hv : refForeign (167) = false := by
      unfold refForeign; repeat' (first | rfl | rw [if_pos (by omega)] | rw [if_neg (by omega)])
    rw [hv]
    clear hv
    go_enter Tryz.func60, Tryz.ntmps60
    go_wp2_with fail
    go_ret
    exact ⟨rfl, rfl⟩
  · have hv : refForeign c = true := by
      unfold refForeign; repeat' (first | rfl | rw [if_pos (by omega)] | rw [if_neg (by omega)])
    rw [hv]
    have t0 : (c == 28) = false := by simp; omega
    have t1 : (c == 37) = false := by simp; omega
    have t2 : (c == 38) = false := by simp; omega
    have t3 : (c == 42) = false := by simp; omega
    have t4 : (c == 43) = false := by simp; omega
    have t5 : (c == 56) = false := by simp; omega
    have t6 : (c == 57) = false := by simp; omega
    have t7 : (c == 67) = false := by simp; omega
    have t8 : (c == 68) = false := by simp; omega
    have t9 : (c == 208) = false := by simp; omega
    have t10 : (c == 209) = false := by simp; omega
    have t11 : (c == 210) = false := by simp; omega
    have t12 : (c == 253) = false := by simp; omega
    have t13 : decide ((91 : Int) ≤ c) = true := by simp; omega
    have t14 : decide (c ≤ (102 : Int)) = false := by simp; omega
    have t15 : decide ((139 : Int) ≤ c) = true := by simp; omega
    have t16 : decide (c ≤ (166 : Int)) = false := by simp; omega
    have t17 : decide ((168 : Int) ≤ c) = true := by simp; omega
    have t18 : decide (c ≤ (171 : Int)) = true := by simp; omega
    have t19 : decide ((174 : Int) ≤ c) = false := by simp; omega
    have t20 : decide (c ≤ (191 : Int)) = true := by simp; omega
    have t21 : decide ((64512 : Int) ≤ c) = false := by simp; omega
    have t22 : decide (c ≤ (64521 : Int)) = true := by simp; omega
    have t23 : decide ((64524 : Int) ≤ c) = false := by simp; omega
    have t24 : decide (c ≤ (64529 : Int)) = true := by simp; omega
    clear hv h1 h2 g1 g2
    go_enter Tryz.func60, Tryz.ntmps60
    go_wp2_with fail
    go_ret
    exact ⟨rfl, rfl⟩
  · have hv : refForeign c = false := by
      unfold refForeign; repeat' (first | rfl | rw [if_pos (by omega)] | rw [if_neg (by omega)])
    rw [hv]
    have t0 : (c == 28) = false := by simp; omega
    have t1 : (c == 37) = false := by simp; omega
    have t2 : (c == 38) = false := by simp; omega
    have t3 : (c == 42) = false := by simp; omega
    have t4 : (c == 43) = false := by simp; omega
    have t5 : (c == 56) = false := by simp; omega
    have t6 : (c == 57) = false := by simp; omega
    have t7 : (c == 67) = false := by simp; omega
    have t8 : (c == 68) = false := by simp; omega
    have t9 : (c == 208) = false := by simp; omega
    have t10 : (c == 209) = false := by simp; omega
    have t11 : (c == 210) = false := by simp; omega
    have t12 : (c == 253) = false := by simp; omega
    have t13 : decide ((91 : Int) ≤ c) = true := by simp; omega
    have t14 : decide (c ≤ (102 : Int)) = false := by simp; omega
    have t15 : decide ((139 : Int) ≤ c) = true := by simp; omega
    have t16 : decide (c ≤ (166 : Int)) = false := by simp; omega
    have t17 : decide ((168 : Int) ≤ c) = true := by simp; omega
    have t18 : decide (c ≤ (171 : Int)) = false := by simp; omega
    have t19 : decide ((174 : Int) ≤ c) = false := by simp; omega
    have t20 : decide (c ≤ (191 : Int)) = true := by simp; omega
    have t21 : decide ((64512 : Int) ≤ c) = false := by simp; omega
    have t22 : decide (c ≤ (64521 : Int)) = true := by simp; omega
    have t23 : decide ((64524 : Int) ≤ c) = false := by simp; omega
    have t24 : decide (c ≤ (64529 : Int)) = true := by simp; omega
    clear hv h1 h2 g1 g2
    go_enter Tryz.func60, Tryz.ntmps60
    go_wp2_with fail
    go_ret
    exact ⟨rfl, rfl⟩
  · have hv : refForeign c = true := by
      unfold refForeign; repeat' (first | rfl | rw [if_pos (by omega)] | rw [if_neg (by omega)])
    rw [hv]
    have t0 : (c == 28) = false := by simp; omega
    have t1 : (c == 37) = false := by simp; omega
    have t2 : (c == 38) = false := by simp; omega
    have t3 : (c == 42) = false := by simp; omega
    have t4 : (c == 43) = false := by simp; omega
    have t5 : (c == 56) = false := by simp; omega
    have t6 : (c == 57) = false := by simp; omega
    have t7 : (c == 67) = false := by simp; omega
    have t8 : (c == 68) = false := by simp; omega
    have t9 : (c == 208) = false := by simp; omega
    have t10 : (c == 209) = false := by simp; omega
    have t11 : (c == 210) = false := by simp; omega
    have t12 : (c == 253) = false := by simp; omega
    have t13 : decide ((91 : Int) ≤ c) = true := by simp; omega
    have t14 : decide (c ≤ (102 : Int)) = false := by simp; omega
    have t15 : decide ((139 : Int) ≤ c) = true := by simp; omega
    have t16 : decide (c ≤ (166 : Int)) = false := by simp; omega
    have t17 : decide ((168 : Int) ≤ c) = true := by simp; omega
    have t18 : decide (c ≤ (171 : Int)) = false := by simp; omega
    have t19 : decide ((174 : Int) ≤ c) = true := by simp; omega
    have t20 : decide (c ≤ (191 : Int)) = true := by simp; omega
    have t21 : decide ((64512 : Int) ≤ c) = false := by simp; omega
    have t22 : decide (c ≤ (64521 : Int)) = true := by simp; omega
    have t23 : decide ((64524 : Int) ≤ c) = false := by simp; omega
    have t24 : decide (c ≤ (64529 : Int)) = true := by simp; omega
    clear hv h1 h2 g1 g2
    go_enter Tryz.func60, Tryz.ntmps60
    go_wp2_with fail
    go_ret
    exact ⟨rfl, rfl⟩
  · have hv : refForeign c = false := by
      unfold refForeign; repeat' (first | rfl | rw [if_pos (by omega)] | rw [if_neg (by omega)])
    rw [hv]
    have t0 : (c == 28) = false := by simp; omega
    have t1 : (c == 37) = false := by simp; omega
    have t2 : (c == 38) = false := by simp; omega
    have t3 : (c == 42) = false := by simp; omega
    have t4 : (c == 43) = false := by simp; omega
    have t5 : (c == 56) = false := by simp; omega
    have t6 : (c == 57) = false := by simp; omega
    have t7 : (c == 67) = false := by simp; omega
    have t8 : (c == 68) = false := by simp; omega
    have t9 : (c == 208) = false := by simp; omega
    have t10 : (c == 209) = false := by simp; omega
    have t11 : (c == 210) = false := by simp; omega
    have t12 : (c == 253) = false := by simp; omega
    have t13 : decide ((91 : Int) ≤ c) = true := by simp; omega
    have t14 : decide (c ≤ (102 : Int)) = false := by simp; omega
    have t15 : decide ((139 : Int) ≤ c) = true := by simp; omega
    have t16 : decide (c ≤ (166 : Int)) = false := by simp; omega
    have t17 : decide ((168 : Int) ≤ c) = true := by simp; omega
    have t18 : decide (c ≤ (171 : Int)) = false := by simp; omega
    have t19 : decide ((174 : Int) ≤ c) = true := by simp; omega
    have t20 : decide (c ≤ (191 : Int)) = false := by simp; omega
    have t21 : decide ((64512 : Int) ≤ c) = false := by simp; omega
    have t22 : decide (c ≤ (64521 : Int)) = true := by simp; omega
    have t23 : decide ((64524 : Int) ≤ c) = false := by simp; omega
    have t24 : decide (c ≤ (64529 : Int)) = true := by simp; omega
    clear hv h1 h2 g1 g2
    go_enter Tryz.func60, Tryz.ntmps60
    go_wp2_with fail
    go_ret
    exact ⟨rfl, rfl⟩
  · have hv : refForeign (208) = true := by
      unfold refForeign; repeat' (first | rfl | rw [if_pos (by omega)] | rw [if_neg (by omega)])
    rw [hv]
    clear hv
    go_enter Tryz.func60, Tryz.ntmps60
    go_wp2_with fail
    go_ret
    exact ⟨rfl, rfl⟩
  · have hv : refForeign (209) = true := by
      unfold refForeign; repeat' (first | rfl | rw [if_pos (by omega)] | rw [if_neg (by omega)])
    rw [hv]
    clear hv
    go_enter Tryz.func60, Tryz.ntmps60
    go_wp2_with fail
    go_ret
    exact ⟨rfl, rfl⟩
  · have hv : refForeign (210) = true := by
      unfold refForeign; repeat' (first | rfl | rw [if_pos (by omega)] | rw [if_neg (by omega)])
    rw [hv]
    clear hv
    go_enter Tryz.func60, Tryz.ntmps60
    go_wp2_with fail
    go_ret
    exact ⟨rfl, rfl⟩
  · have hv : refForeign c = false := by
      unfold refForeign; repeat' (first | rfl | rw [if_pos (by omega)] | rw [if_neg (by omega)])
    rw [hv]
    have t0 : (c == 28) = false := by simp; omega
    have t1 : (c == 37) = false := by simp; omega
    have t2 : (c == 38) = false := by simp; omega
    have t3 : (c == 42) = false := by simp; omega
    have t4 : (c == 43) = false := by simp; omega
    have t5 : (c == 56) = false := by simp; omega
    have t6 : (c == 57) = false := by simp; omega
    have t7 : (c == 67) = false := by simp; omega
    have t8 : (c == 68) = false := by simp; omega
    have t9 : (c == 208) = false := by simp; omega
    have t10 : (c == 209) = false := by simp; omega
    have t11 : (c == 210) = false := by simp; omega
    have t12 : (c == 253) = false := by simp; omega
    have t13 : decide ((91 : Int) ≤ c) = true := by simp; omega
    have t14 : decide (c ≤ (102 : Int)) = false := by simp; omega
    have t15 : decide ((139 : Int) ≤ c) = true := by simp; omega
    have t16 : decide (c ≤ (166 : Int)) = false := by simp; omega
    have t17 : decide ((168 : Int) ≤ c) = true := by simp; omega
    have t18 : decide (c ≤ (171 : Int)) = false := by simp; omega
    have t19 : decide ((174 : Int) ≤ c) = true := by simp; omega
    have t20 : decide (c ≤ (191 : Int)) = false := by simp; omega
    have t21 : decide ((64512 : Int) ≤ c) = false := by simp; omega
    have t22 : decide (c ≤ (64521 : Int)) = true := by simp; omega
    have t23 : decide ((64524 : Int) ≤ c) = false := by simp; omega
    have t24 : decide (c ≤ (64529 : Int)) = true := by simp; omega
    clear hv h1 h2 g1 g2
    go_enter Tryz.func60, Tryz.ntmps60
    go_wp2_with fail
    go_ret
    exact ⟨rfl, rfl⟩
  · have hv : refForeign (253) = true := by
      unfold refForeign; repeat' (first | rfl | rw [if_pos (by omega)] | rw [if_neg (by omega)])
    rw [hv]
    clear hv
    go_enter Tryz.func60, Tryz.ntmps60
    go_wp2_with fail
    go_ret
    exact ⟨rfl, rfl⟩
  · have hv : refForeign c = false := by
      unfold refForeign; repeat' (first | rfl | rw [if_pos (by omega)] | rw [if_neg (by omega)])
    rw [hv]
    have t0 : (c == 28) = false := by simp; omega
    have t1 : (c == 37) = false := by simp; omega
    have t2 : (c == 38) = false := by simp; omega
    have t3 : (c == 42) = false := by simp; omega
    have t4 : (c == 43) = false := by simp; omega
    have t5 : (c == 56) = false := by simp; omega
    have t6 : (c == 57) = false := by simp; omega
    have t7 : (c == 67) = false := by simp; omega
    have t8 : (c == 68) = false := by simp; omega
    have t9 : (c == 208) = false := by simp; omega
    have t10 : (c == 209) = false := by simp; omega
    have t11 : (c == 210) = false := by simp; omega
    have t12 : (c == 253) = false := by simp; omega
    have t13 : decide ((91 : Int) ≤ c) = true := by simp; omega
    have t14 : decide (c ≤ (102 : Int)) = false := by simp; omega
    have t15 : decide ((139 : Int) ≤ c) = true := by simp; omega
    have t16 : decide (c ≤ (166 : Int)) = false := by simp; omega
    have t17 : decide ((168 : Int) ≤ c) = true := by simp; omega
    have t18 : decide (c ≤ (171 : Int)) = false := by simp; omega
    have t19 : decide ((174 : Int) ≤ c) = true := by simp; omega
    have t20 : decide (c ≤ (191 : Int)) = false := by simp; omega
    have t21 : decide ((64512 : Int) ≤ c) = false := by simp; omega
    have t22 : decide (c ≤ (64521 : Int)) = true := by simp; omega
    have t23 : decide ((64524 : Int) ≤ c) = false := by simp; omega
    have t24 : decide (c ≤ (64529 : Int)) = true := by simp; omega
    clear hv h1 h2 g1 g2
    go_enter Tryz.func60, Tryz.ntmps60
    go_wp2_with fail
    go_ret
    exact ⟨rfl, rfl⟩
  · have hv : refForeign c = true := by
      unfold refForeign; repeat' (first | rfl | rw [if_pos (by omega)] | rw [if_neg (by omega)])
    rw [hv]
    have t0 : (c == 28) = false := by simp; omega
    have t1 : (c == 37) = false := by simp; omega
    have t2 : (c == 38) = false := by simp; omega
    have t3 : (c == 42) = false := by simp; omega
    have t4 : (c == 43) = false := by simp; omega
    have t5 : (c == 56) = false := by simp; omega
    have t6 : (c == 57) = false := by simp; omega
    have t7 : (c == 67) = false := by simp; omega
    have t8 : (c == 68) = false := by simp; omega
    have t9 : (c == 208) = false := by simp; omega
    have t10 : (c == 209) = false := by simp; omega
    have t11 : (c == 210) = false := by simp; omega
    have t12 : (c == 253) = false := by simp; omega
    have t13 : decide ((91 : Int) ≤ c) = true := by simp; omega
    have t14 : decide (c ≤ (102 : Int)) = false := by simp; omega
    have t15 : decide ((139 : Int) ≤ c) = true := by simp; omega
    have t16 : decide (c ≤ (166 : Int)) = false := by simp; omega
    have t17 : decide ((168 : Int) ≤ c) = true := by simp; omega
    have t18 : decide (c ≤ (171 : Int)) = false := by simp; omega
    have t19 : decide ((174 : Int) ≤ c) = true := by simp; omega
    have t20 : decide (c ≤ (191 : Int)) = false := by simp; omega
    have t21 : decide ((64512 : Int) ≤ c) = true := by simp; omega
    have t22 : decide (c ≤ (64521 : Int)) = true := by simp; omega
    have t23 : decide ((64524 : Int) ≤ c) = false := by simp; omega
    have t24 : decide (c ≤ (64529 : Int)) = true := by simp; omega
    clear hv h1 h2 g1 g2
    go_enter Tryz.func60, Tryz.ntmps60
    go_wp2_with fail
    go_ret
    exact ⟨rfl, rfl⟩
  · have hv : refForeign c = false := by
      unfold refForeign; repeat' (first | rfl | rw [if_pos (by omega)] | rw [if_neg (by omega)])
    rw [hv]
    have t0 : (c == 28) = false := by simp; omega
    have t1 : (c == 37) = false := by simp; omega
    have t2 : (c == 38) = false := by simp; omega
    have t3 : (c == 42) = false := by simp; omega
    have t4 : (c == 43) = false := by simp; omega
    have t5 : (c == 56) = false := by simp; omega
    have t6 : (c == 57) = false := by simp; omega
    have t7 : (c == 67) = false := by simp; omega
    have t8 : (c == 68) = false := by simp; omega
    have t9 : (c == 208) = false := by simp; omega
    have t10 : (c == 209) = false := by simp; omega
    have t11 : (c == 210) = false := by simp; omega
    have t12 : (c == 253) = false := by simp; omega
    have t13 : decide ((91 : Int) ≤ c) = true := by simp; omega
    have t14 : decide (c ≤ (102 : Int)) = false := by simp; omega
    have t15 : decide ((139 : Int) ≤ c) = true := by simp; omega
    have t16 : decide (c ≤ (166 : Int)) = false := by simp; omega
    have t17 : decide ((168 : Int) ≤ c) = true := by simp; omega
    have t18 : decide (c ≤ (171 : Int)) = false := by simp; omega
    have t19 : decide ((174 : Int) ≤ c) = true := by simp; omega
    have t20 : decide (c ≤ (191 : Int)) = false := by simp; omega
    have t21 : decide ((64512 : Int) ≤ c) = true := by simp; omega
    have t22 : decide (c ≤ (64521 : Int)) = false := by simp; omega
    have t23 : decide ((64524 : Int) ≤ c) = false := by simp; omega
    have t24 : decide (c ≤ (64529 : Int)) = true := by simp; omega
    clear hv h1 h2 g1 g2
    go_enter Tryz.func60, Tryz.ntmps60
    go_wp2_with fail
    go_ret
    exact ⟨rfl, rfl⟩
  · have hv : refForeign c = true := by
      unfold refForeign; repeat' (first | rfl | rw [if_pos (by omega)] | rw [if_neg (by omega)])
    rw [hv]
    have t0 : (c == 28) = false := by simp; omega
    have t1 : (c == 37) = false := by simp; omega
    have t2 : (c == 38) = false := by simp; omega
    have t3 : (c == 42) = false := by simp; omega
    have t4 : (c == 43) = false := by simp; omega
    have t5 : (c == 56) = false := by simp; omega
    have t6 : (c == 57) = false := by simp; omega
    have t7 : (c == 67) = false := by simp; omega
    have t8 : (c == 68) = false := by simp; omega
    have t9 : (c == 208) = false := by simp; omega
    have t10 : (c == 209) = false := by simp; omega
    have t11 : (c == 210) = false := by simp; omega
    have t12 : (c == 253) = false := by simp; omega
    have t13 : decide ((91 : Int) ≤ c) = true := by simp; omega
    have t14 : decide (c ≤ (102 : Int)) = false := by simp; omega
    have t15 : decide ((139 : Int) ≤ c) = true := by simp; omega
    have t16 : decide (c ≤ (166 : Int)) = false := by simp; omega
    have t17 : decide ((168 : Int) ≤ c) = true := by simp; omega
    have t18 : decide (c ≤ (171 : Int)) = false := by simp; omega
    have t19 : decide ((174 : Int) ≤ c) = true := by simp; omega
    have t20 : decide (c ≤ (191 : Int)) = false := by simp; omega
    have t21 : decide ((64512 : Int) ≤ c) = true := by simp; omega
    have t22 : decide (c ≤ (64521 : Int)) = false := by simp; omega
    have t23 : decide ((64524 : Int) ≤ c) = true := by simp; omega
    have t24 : decide (c ≤ (64529 : Int)) = true := by simp; omega
    clear hv h1 h2 g1 g2
    go_enter Tryz.func60, Tryz.ntmps60
    go_wp2_with fail
    go_ret
    exact ⟨rfl, rfl⟩
  · have hv : refForeign c = false := by
      unfold refForeign; repeat' (first | rfl | rw [if_pos (by omega)] | rw [if_neg (by omega)])
    rw [hv]
    have t0 : (c == 28) = false := by simp; omega
    have t1 : (c == 37) = false := by simp; omega
    have t2 : (c == 38) = false := by simp; omega
    have t3 : (c == 42) = false := by simp; omega
    have t4 : (c == 43) = false := by simp; omega
    have t5 : (c == 56) = false := by simp; omega
    have t6 : (c == 57) = false := by simp; omega
    have t7 : (c == 67) = false := by simp; omega
    have t8 : (c == 68) = false := by simp; omega
    have t9 : (c == 208) = false := by simp; omega
    have t10 : (c == 209) = false := by simp; omega
    have t11 : (c == 210) = false := by simp; omega
    have t12 : (c == 253) = false := by simp; omega
    have t13 : decide ((91 : Int) ≤ c) = true := by simp; omega
    have t14 : decide (c ≤ (102 : Int)) = false := by simp; omega
    have t15 : decide ((139 : Int) ≤ c) = true := by simp; omega
    have t16 : decide (c ≤ (166 : Int)) = false := by simp; omega
    have t17 : decide ((168 : Int) ≤ c) = true := by simp; omega
    have t18 : decide (c ≤ (171 : Int)) = false := by simp; omega
    have t19 : decide ((174 : Int) ≤ c) = true := by simp; omega
    have t20 : decide (c ≤ (191 : Int)) = false := by simp; omega
    have t21 : decide ((64512 : Int) ≤ c) = true := by simp; omega
    have t22 : decide (c ≤ (64521 : Int)) = false := by simp; omega
    have t23 : decide ((64524 : Int) ≤ c) = true := by simp; omega
    have t24 : decide (c ≤ (64529 : Int)) = false := by simp; omega
    clear hv h1 h2 g1
    go_enter Tryz.func60, Tryz.ntmps60
    go_wp2_with fail
    go_ret
    exact ⟨rfl, rfl⟩
--ENDGEN
end Go.Proofs.YtpanlhbdphobdaaGreatDoor
