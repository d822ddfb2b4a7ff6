/-
  conv: a word's bytes, bytes' word: contracts.
-/
import Derived.Test.YtpphkfolhlkaiaaDoorConv
import Derived.Test.YtpphkfolhlkaiaaDoorArgs
namespace Go.Proofs.YtpphkfolhlkaiaaDoor
open Go.RowKit
set_option linter.unusedVariables false

def byteN (a i : Nat) : UInt8 := UInt8.ofNat (a / 2 ^ (8 * i) % 256)
def bytesN (a n : Nat) : List UInt8 := (List.range n).map (byteN a)
def wordN : List UInt8 → Nat
  | [] => 0
  | b :: r => b.toNat + 256 * wordN r
def countedN (n : Int) : Prop := n = 1 ∨ n = 2 ∨ n = 4 ∨ n = 8

set_option maxHeartbeats 400000 in
theorem counted_yes (n : Int) (w : World) (h : countedN n) :
    Calls Tryd.prog 20 #[.int .i64 n] w fun e w' => e = .returned (.bool true) ∧ w = w' := by
  rcases h with rfl | rfl | rfl | rfl
  all_goals
    go_enter Tryd.func20, Tryd.ntmps20
    go_wp2_with fail
    go_ret
    exact ⟨rfl, rfl⟩
set_option maxHeartbeats 400000 in
theorem counted_no (n : Int) (w : World) (h : ¬ countedN n) :
    Calls Tryd.prog 20 #[.int .i64 n] w fun e w' => e = .returned (.bool false) ∧ w = w' := by
  unfold countedN at h
  have e1 : (n == 1) = false := by simp; omega
  have e2 : (n == 2) = false := by simp; omega
  have e3 : (n == 4) = false := by simp; omega
  have e4 : (n == 8) = false := by simp; omega
  clear h
  go_enter Tryd.func20, Tryd.ntmps20
  go_wp2_with fail
  go_ret
  exact ⟨rfl, rfl⟩

set_option maxHeartbeats 400000 in
theorem bytes_no (a n : Int) (w : World) (h : ¬ countedN n) :
    Calls Tryd.prog 10 #[.int .u64 a, .int .i64 n] w fun e w' => e = .returned (.tuple #[.slice none 0 0, .int .i64 1]) ∧ w = w' := by
  have H := hide (counted_no n w h)
  clear h
  go_enter Tryd.func10, Tryd.ntmps10
  go_wp2_with fail
  refine H.out.mono ?_; rintro e w' ⟨rfl, rfl⟩
  go_wp2_with fail
  go_ret2
  exact ⟨rfl, rfl⟩

theorem byteN_val (a k : Nat) : Value.int .u8 ((a : Int) / 2 ^ (8 * k) % 256) = B (byteN a k) := by
  unfold byteN
  rw [← B_ofNat _ (Nat.mod_lt _ (by omega)), Int.natCast_emod, Int.natCast_ediv, Int.natCast_pow]
  rfl
/-- bytes that a call has made -/
def BytesP (w : World) (bs : List UInt8) (n : Nat) (e : Ending) (w' : World) : Prop := ∃ A c, e = .returned (.tuple #[.slice A n c, .int .i64 0]) ∧ Hid (Reads w' w'.heap.size 1 A n (bs.map B)) ∧ Hid (Below w.heap.size w w') ∧ Hid (n ≤ c)

def midB (a n k : Nat) : List Value := (List.range n).map fun j => if j < k then B (byteN a j) else .int .u8 0
theorem midB_set (a n k : Nat) (h : k < n) : (midB a n k).set k (B (byteN a k)) = midB a n (k + 1) := by
  unfold midB
  apply List.ext_getElem?
  intro i
  rw [List.getElem?_set]
  simp only [List.length_map, List.length_range, List.getElem?_map]
  by_cases hi : k = i
  · subst hi
    simp [h]
  · rw [if_neg hi]
    by_cases hin : i < n
    · rw [List.getElem?_range hin]
      simp only [Option.map_some, Option.some.injEq]
      by_cases h1 : i < k
      · rw [if_pos h1, if_pos (by omega)]
      · rw [if_neg h1, if_neg (by omega)]
    · rw [List.getElem?_eq_none (by simpa using hin)]
      rfl
theorem midB_zero (a n : Nat) : midB a n 0 = List.replicate n (.int .u8 0) := by
  unfold midB
  simp only [Nat.not_lt_zero, if_false]
  exact List.map_const' .. |>.trans (by simp)
theorem bytesN_succ (a n : Nat) : bytesN a (n + 1) = bytesN a n ++ [byteN a n] := by
  unfold bytesN; rw [List.range_succ, List.map_append]; rfl
theorem bytesN_len (a n : Nat) : (bytesN a n).length = n := by simp [bytesN]
theorem u8_elem : IsElem Tryd.prog 30 5 1 1 := IsElem.mk' Tryd.underlying30 (z := .int .u8 0) (by kernel_rfl) rfl (by omega)
theorem midB_full (a n : Nat) : midB a n n = (bytesN a n).map B := by
  unfold midB bytesN
  rw [List.map_map]
  refine List.map_congr_left fun i hi => ?_
  rw [if_pos (List.mem_range.1 hi)]
  rfl

theorem run_make_one {P : Program} {t e : TypeId} {i : TypeInfo} {z : Value} (w : World) (ht : P.underlying t = some (.slice e)) (hi : P.info? e = some i) (hz : i.zero = some z) (hs : i.size = 1) (h1 : z.cells = #[z]) (hb : i.bytes ≤ 1000) (n : Nat) (hn : n ≤ 1000000) :
    (Instr.makeSlice t (.int .i64 n) (.int .i64 n)).run P w = .ok (.slice (some ⟨w.heap.size, 0, none⟩) n n) (w.alloc (.cells (Array.replicate n z) e)) := by
  have hbn : (i.bytes : Int) * (n : Int) ≤ 1000 * 1000000 := Int.mul_le_mul (by omega) (by omega) (by omega) (by omega)
  have hr := run_make (P := P) w t e i z ht hi hz .i64 .i64 n n (by omega) (Int.le_refl _) (by omega) (by omega)
  rw [hr]
  simp only [Int.toNat_natCast, hs, Nat.mul_one, h1]
  congr 3
  apply Array.toList_inj.1
  rw [toList_madeCells_one]
  simp
theorem make_u8 (w : World) (n : Nat) (hn : n ≤ 1000000) : (Instr.makeSlice 30 (.int .i64 n) (.int .i64 n)).run Tryd.prog w = .ok (.slice (some ⟨w.heap.size, 0, none⟩) n n) (w.alloc (.cells (Array.replicate n (.int .u8 0)) 5)) := by
  cases h : Tryd.prog.info? 5 with
  | none => exact absurd h (by decide +kernel)
  | some i =>
    have hh : (Tryd.prog.info? 5).map (fun i => (i.zero, i.size, i.bytes)) = some (some (.int .u8 0), 1, 1) := by kernel_rfl
    rw [h] at hh
    simp only [Option.map_some, Option.some.injEq, Prod.mk.injEq] at hh
    exact run_make_one w Tryd.underlying30 h hh.1 hh.2.1 rfl (by omega) n hn

set_option maxHeartbeats 800000 in
theorem bytes_yes (a n : Nat) (w : World) (h : countedN n) (ha : a ≤ 18446744073709551615) :
    Calls Tryd.prog 10 #[.int .u64 a, .int .i64 n] w (BytesP w (bytesN a n) n) := by
  obtain ⟨base, hbase⟩ : ∃ b, w.heap.size = b := ⟨_, rfl⟩
  have H := hide (counted_yes n w h)
  have hn : n ≤ 8 := by unfold countedN at h; omega
  have hmk := make_u8 w n (by omega)
  rw [hbase] at hmk
  have ho0 := World.ownsRow_lit (base := base) (e := 5) (size := 1) w (Array.replicate n (.int .u8 0)) n (by omega) (by unfold countedN at h; unfold maxLen; omega) (by simp)
  rw [hbase] at ho0
  have hb0 : Below base w (w.alloc (.cells (Array.replicate n (.int .u8 0)) 5)) := (Below.refl _ _).alloc (by omega) _
  have HB := hide hbase; clear hbase h
  go_enter Tryd.func10, Tryd.ntmps10
  go_wp2_with fail
  refine H.out.mono ?_; rintro e w' ⟨rfl, rfl⟩
  go_wp2_with fail
  generalize w.alloc (.cells (Array.replicate n (.int .u8 0)) 5) = w1 at ho0 hb0 ⊢
  rw [Array.toList_replicate, ← midB_zero a n] at ho0
  have HO0 := hide ho0; clear ho0
  have HB0 := hide hb0; clear hb0
  go_loopw [7, 15] (fun _ i w2 => ∃ k : Nat, i = .int .i64 k ∧ k ≤ n ∧ Hid (w2.ownsRow base 5 1 (.slice (some ⟨base, 0, none⟩) n n) n (midB a n k)) ∧ Hid (Below base w w2)) (fun _ i _ => n - (intOf i).toNat)
  case atStart => exact ⟨0, rfl, by omega, HO0, HB0⟩
  case round =>
    obtain ⟨k, rfl, hk, ho, hb⟩ := hrel
    by_cases hlt : k < n
    · have hfr := ho.out.frozenAt k
      obtain ⟨u, hu⟩ : ∃ u, (midB a n k)[k]? = some u := ⟨_, List.getElem?_eq_getElem (by simpa [midB] using hlt)⟩
      have hc := (ho.out.cellAt k (by omega)).trans hu
      clear hu
      go_wp2_with fail
      go_roundw
      case rel =>
        refine ⟨k + 1, by go_num, by omega, ?_, hb.out.setCell (by show base ≤ base; omega) _⟩
        have h := (ho.out.stored k (B (byteN a k))).1
        rw [midB_set a n k hlt, ← byteN_val] at h
        exact h
      case measure => simp [intOf] <;> omega
    · have hkn : k = n := by omega
      subst hkn
      clear hlt
      go_wp2_with fail
      go_ret2
      refine ⟨_, _, rfl, ?_, by rw [HB.out]; exact hb.out, Nat.le_refl _⟩
      have h := Reads.of_own ho.out
      rw [midB_full] at h
      exact h

set_option maxHeartbeats 800000 in
theorem refBytes_any (a n : Nat) (w : World) (hn : n ≤ 8) (ha : a ≤ 18446744073709551615) :
    Calls Tryd.prog 11 #[.int .u64 a, .int .i64 n] w fun e w' => ∃ A c, e = .returned (.slice A n c) ∧ Hid (Reads w' w'.heap.size 1 A n ((bytesN a n).map B)) ∧ Hid (Below w.heap.size w w') := by
  obtain ⟨base, hbase⟩ : ∃ b, w.heap.size = b := ⟨_, rfl⟩
  have HB := hide hbase; clear hbase
  have ha' : Hid (a < 2 ^ 64) := by show _ < _; simp; omega
  go_enter Tryd.func11, Tryd.ntmps11
  go_wp2_with fail
  go_loopw [0, 5, 6] (fun m v i w1 => ∃ (k q : Nat), i = .int .i64 k ∧ k ≤ n ∧ m = .int .u64 q ∧ Hid (a / 2 ^ (8 * k) = q) ∧ q ≤ 18446744073709551615 ∧ Hid (w1.ownsRow base 5 1 v k ((bytesN a k).map B)) ∧ Hid (Below base w w1) ∧ base ≤ w1.heap.size) (fun _ _ i _ => n - (intOf i).toNat)
  case atStart => exact ⟨0, a, rfl, by omega, rfl, by show _ = _; simp, ha, own_nil _ _ _ _, Below.refl _ _, by rw [HB.out]; omega⟩
  case round =>
    obtain ⟨k, q, rfl, hk, rfl, hq, hq1, ho, hb, hbs⟩ := hrel
    by_cases hlt : k < n
    · have hroom : Room k 1 1 := room_of (by omega) (by omega)
      go_wp2_with (at_builtin; refine wpList_push rfl _ _ rfl base u8_elem _ k ((bytesN a k).map B) rfl wr _ _ rfl ho.out rfl rfl hroom hbs ?_; intro v' w' ho' hg')
      go_roundw
      case rel =>
        refine ⟨k + 1, q / 256, by go_num, by omega, int_congr (by omega), ?_, by omega, own_cast ho' rfl ?_, hb.out.grown hg'.by_ hbs (own_ge ho.out), Nat.le_trans hbs hg'.by_.size⟩
        · show _ = _
          rw [Nat.mul_succ, Nat.pow_add, ← Nat.div_div_eq_div_mul, hq.out]
        · rw [bytesN_succ, List.map_append]
          congr 1
          have h2 : (a : Int) / 2 ^ (8 * k) = (q : Int) := by rw [← hq.out, Int.natCast_ediv, Int.natCast_pow]; rfl
          rw [List.map_singleton, ← byteN_val a k, h2]
      case measure => simp [intOf] <;> omega
    · have hkn : k = n := by omega
      subst hkn
      clear hlt
      obtain ⟨A, c, hv, hc, _⟩ := own_form ho.out
      subst hv
      go_wp2_with fail
      go_ret
      exact ⟨A, c, rfl, Reads.of_own ho.out, by rw [HB.out]; exact hb.out⟩

theorem wordN_append : ∀ (a : List UInt8) (b : UInt8), wordN (a ++ [b]) = wordN a + 2 ^ (8 * a.length) * b.toNat
  | [], b => by simp [wordN]
  | x :: a, b => by
    rw [List.cons_append, wordN, wordN_append a b, wordN, List.length_cons, Nat.mul_succ, Nat.pow_add, Nat.mul_add, ← Nat.mul_assoc, show (2 : Nat) ^ 8 = 256 from rfl, Nat.mul_comm 256 (2 ^ _)]
    omega
theorem wordN_lt : ∀ (a : List UInt8), wordN a < 2 ^ (8 * a.length)
  | [] => by simp [wordN]
  | x :: a => by
    have := wordN_lt a
    have hx := x.toNat_lt
    rw [wordN, List.length_cons, Nat.mul_succ, Nat.pow_add, show (2 : Nat) ^ 8 = 256 from rfl]
    omega
theorem wordN_drop {l : List UInt8} {k : Nat} {b : UInt8} (h : l[k]? = some b) : wordN (l.drop k) = b.toNat + 256 * wordN (l.drop (k + 1)) := by
  obtain ⟨hk, hv⟩ := List.getElem?_eq_some_iff.1 h
  rw [List.drop_eq_getElem_cons hk, hv, wordN]
theorem wordN_take {l : List UInt8} {k : Nat} {b : UInt8} (h : l[k]? = some b) : wordN (l.take (k + 1)) = wordN (l.take k) + 2 ^ (8 * k) * b.toNat := by
  obtain ⟨hk, hv⟩ := List.getElem?_eq_some_iff.1 h
  rw [List.take_succ_eq_append_getElem hk, wordN_append, hv, List.length_take, Nat.min_eq_left (by omega)]
theorem pow8_le (k : Nat) (h : k ≤ 8) : (2 : Nat) ^ (8 * k) ≤ 2 ^ 64 := Nat.pow_le_pow_right (by omega) (by omega)
theorem or_word (acc c k : Nat) (hk : k < 8) (ha : acc < 2 ^ (8 * k)) (hc : c < 256) :
    bits .or .u64 (acc : Int) (IntKind.u64.wrap ((c : Int) * 2 ^ (8 * k))) = ((acc + 2 ^ (8 * k) * c : Nat) : Int) := by
  have h8 : 2 ^ (8 * (k + 1)) ≤ 2 ^ 64 := pow8_le (k + 1) (by omega)
  rw [Nat.mul_succ, Nat.pow_add, show (2 : Nat) ^ 8 = 256 from rfl] at h8
  have hm : c * 2 ^ (8 * k) < 2 ^ 64 := Nat.lt_of_lt_of_le (by
    rw [Nat.mul_comm]
    exact Nat.mul_lt_mul_of_pos_left hc (Nat.two_pow_pos _)) h8
  have hcast : (c : Int) * 2 ^ (8 * k) = ((c * 2 ^ (8 * k) : Nat) : Int) := by rw [Int.natCast_mul, Int.natCast_pow]; rfl
  have hlt : acc < 2 ^ 64 := Nat.lt_of_lt_of_le ha (pow8_le k (by omega))
  have hw : IntKind.u64.wrap ((c * 2 ^ (8 * k) : Nat) : Int) = ((c * 2 ^ (8 * k) : Nat) : Int) := by
    rw [IntKind.wrap_u64]
    simp only [Nat.reducePow] at hm
    omega
  rw [hcast, hw]
  simp only [Nat.reducePow] at hlt hm
  rw [u64_or_nat _ _ hlt hm]
  congr 1
  rw [← Nat.shiftLeft_eq, Nat.or_comm, ← Nat.shiftLeft_add_eq_or_of_lt ha, Nat.shiftLeft_eq, Nat.mul_comm]
  omega

set_option maxHeartbeats 400000 in
theorem word_no (A : Option Addr) (n cap : Nat) (w : World) (h : ¬ countedN n) :
    Calls Tryd.prog 12 #[.slice A n cap] w fun e w' => e = .returned (.tuple #[.int .u64 0, .int .i64 1]) ∧ w = w' := by
  have H := hide (counted_no n w h)
  clear h
  go_enter Tryd.func12, Tryd.ntmps12
  go_wp2_with fail
  refine H.out.mono ?_; rintro e w' ⟨rfl, rfl⟩
  go_wp2_with fail
  go_ret2
  exact ⟨rfl, rfl⟩
set_option maxHeartbeats 800000 in
theorem word_yes (A : Option Addr) (cap : Nat) (bs : List UInt8) (n : Nat) (hn : Hid (bs.length = n)) (w : World) (h : countedN n) (hr : Hid (Reads w w.heap.size 1 A n (bs.map B))) :
    Calls Tryd.prog 12 #[.slice A n cap] w fun e w' => e = .returned (.tuple #[.int .u64 (wordN bs : Nat), .int .i64 0]) ∧ w = w' := by
  have H := hide (counted_yes n w h)
  have hn8 : n ≤ 8 := by unfold countedN at h; omega
  clear h
  go_enter Tryd.func12, Tryd.ntmps12
  go_wp2_with fail
  refine H.out.mono ?_; rintro e w' ⟨rfl, rfl⟩
  go_wp2_with fail
  go_loop [4, 5, 6, 13] (fun v _ _ i => ∃ k acc : Nat, i = .int .i64 k ∧ k ≤ n ∧ v = .int .u64 acc ∧ Hid (wordN (bs.take k) = acc)) (fun _ _ _ i => n - (intOf i).toNat)
  case atStart => exact ⟨0, 0, rfl, by omega, rfl, rfl⟩
  case round =>
    obtain ⟨k, acc, rfl, hk, rfl, hacc⟩ := hrel
    by_cases hlt : k < n
    · have hr' : Reads w w.heap.size 1 A bs.length (bs.map B) := by rw [hn.out]; exact hr.out
      obtain ⟨ad, c, rfl, hc, hcell, hc0, hc1⟩ := hr'.byte (k := k) (by rw [hn.out]; exact hlt)
      have hlt2 := wordN_lt (bs.take k)
      rw [List.length_take, hn.out, Nat.min_eq_left (by omega), hacc.out] at hlt2
      have hor := hide (or_word acc c.toNat k (by omega) hlt2 c.toNat_lt)
      have hnx := hide (wordN_take hc.out)
      clear hlt2 hr'
      go_wp2_with fail
      go_round
      case rel =>
        refine ⟨k + 1, acc + 2 ^ (8 * k) * c.toNat, by go_num, by omega, int_congr hor.out, ?_⟩
        show _ = _
        rw [hnx.out, hacc.out]
      case measure => simp [intOf] <;> omega
    · have hkn : k = n := by omega
      subst hkn
      clear hlt
      go_wp2_with fail
      go_ret2
      refine ⟨tup2 (int_congr ?_) rfl, rfl⟩
      rw [← hacc.out, List.take_of_length_le (by rw [hn.out]; exact Nat.le_refl _)]

set_option maxHeartbeats 800000 in
theorem refWord06_any (A : Option Addr) (cap : Nat) (bs : List UInt8) (n : Nat) (hn : Hid (bs.length = n)) (w : World) (h8 : n ≤ 8) (hr : Hid (Reads w w.heap.size 1 A n (bs.map B))) :
    Calls Tryd.prog 14 #[.slice A n cap] w fun e w' => e = .returned (.int .u64 (wordN bs : Nat)) ∧ w = w' := by
  go_enter Tryd.func14, Tryd.ntmps14
  go_wp2_with fail
  go_loop [3, 4] (fun m i => ∃ (k q : Nat), k ≤ n ∧ i = .int .i64 ((k : Int) - 1) ∧ m = .int .u64 q ∧ Hid (wordN (bs.drop k) = q)) (fun _ i => (intOf i + 1).toNat)
  case atStart => exact ⟨n, 0, by omega, rfl, rfl, by show _ = _; rw [List.drop_eq_nil_of_le (by rw [hn.out]; exact Nat.le_refl _)]; rfl⟩
  case round =>
    obtain ⟨k, q, hk, rfl, rfl, hq⟩ := hrel
    by_cases hlt : 0 < k
    · obtain ⟨j, rfl⟩ : ∃ j, k = j + 1 := ⟨k - 1, by omega⟩
      have hr' : Reads w w.heap.size 1 A bs.length (bs.map B) := by rw [hn.out]; exact hr.out
      obtain ⟨ad, c, rfl, hc, hcell, hc0, hc1⟩ := hr'.byte (k := j) (by rw [hn.out]; omega)
      have hlt64 : 256 * q < 2 ^ 64 := by
        have h1 := wordN_lt (bs.drop (j + 1))
        rw [List.length_drop, hq.out, hn.out] at h1
        have h2 : 2 ^ (8 * (n - (j + 1))) ≤ 2 ^ (8 * 7) := Nat.pow_le_pow_right (by omega) (by omega)
        simp only [Nat.reduceMul, Nat.reducePow] at h2 ⊢
        omega
      have hq1 : 256 * q ≤ 18446744073709551360 := by simp only [Nat.reducePow] at hlt64; omega
      clear hlt64 hlt hr'
      have hnext := hide (wordN_drop hc.out)
      have hj : ((j + 1 : Nat) : Int) - 1 = j := by omega
      rw [hj]
      have HJ := hide hj; clear hj
      go_wp2_with fail
      go_round
      case rel => exact ⟨j, c.toNat + 256 * q, by omega, int_congr (by omega), int_congr (by omega), by show _ = _; rw [hnext.out, hq.out]⟩
      case measure => simp [intOf] <;> omega
    · have hk0 : k = 0 := by omega
      subst hk0
      clear hlt
      go_wp2_with fail
      go_ret
      have := hq.out
      rw [List.drop_zero] at this
      exact ⟨by rw [this]; rfl, rfl⟩

set_option maxHeartbeats 800000 in
/-- Load, whatever the bytes -/
theorem load_no (A : Option Addr) (n cap : Nat) (to : Int) (sg : Bool) (w : World) (h : ¬ countedN n) (hn : n ≤ 100) :
    Calls Tryd.prog 13 #[.slice A n cap, .int .i64 to, .bool sg] w fun e w' => e = .returned (.tuple #[.int .u64 0, .int .i64 1]) ∧ w = w' := by
  have H := hide (word_no A n cap w h)
  have h8 : ((n : Int) == 8) = false := by unfold countedN at h; simp; omega
  clear h
  go_enter Tryd.func13, Tryd.ntmps13
  go_wp2_with fail
  refine H.out.mono ?_; rintro e w' ⟨rfl, rfl⟩
  go_wp2_with fail
  go_ret2
  exact ⟨rfl, rfl⟩
set_option maxHeartbeats 800000 in
theorem load_whole (A : Option Addr) (cap : Nat) (bs : List UInt8) (hn : Hid (bs.length = 8)) (sg : Bool) (w : World) (hr : Hid (Reads w w.heap.size 1 A 8 (bs.map B))) :
    Calls Tryd.prog 13 #[.slice A 8 cap, .int .i64 64, .bool sg] w fun e w' => e = .returned (.tuple #[.int .u64 (wordN bs : Nat), .int .i64 0]) ∧ w = w' := by
  have H := hide (word_yes A cap bs 8 hn w (by unfold countedN; omega) hr)
  go_enter Tryd.func13, Tryd.ntmps13
  go_wp2_with fail
  refine H.out.mono ?_; rintro e w' ⟨rfl, rfl⟩
  go_wp2_with fail
  go_ret2
  exact ⟨rfl, rfl⟩
theorem wordN_lt64 {bs : List UInt8} {n : Nat} (hn : bs.length = n) (h : n ≤ 8) : wordN bs ≤ 18446744073709551615 := by
  have h1 := wordN_lt bs
  have h2 : 2 ^ (8 * n) ≤ 2 ^ 64 := pow8_le n h
  rw [hn] at h1
  simp only [Nat.reducePow] at h2
  omega
/-- Load, extended or refused -/
def loadOk (n : Nat) (to : Int) : Prop := (n = 1 ∨ n = 2 ∨ n = 4) ∧ (to = 32 ∨ to = 64)
set_option maxHeartbeats 1600000 in
theorem load_ext (A : Option Addr) (cap : Nat) (bs : List UInt8) (n to : Nat) (hn : Hid (bs.length = n)) (sg : Bool) (w : World) (h : loadOk n to) (hr : Hid (Reads w w.heap.size 1 A n (bs.map B))) :
    Calls Tryd.prog 13 #[.slice A n cap, .int .i64 to, .bool sg] w fun e w' => e = .returned (.tuple #[.int .u64 (extV (8 * n) to sg (wordN bs) : Nat), .int .i64 0]) ∧ w = w' := by
  have H := hide (word_yes A cap bs n hn w (by unfold countedN; unfold loadOk at h; omega) hr)
  have hv := wordN_lt64 hn.out (by unfold loadOk at h; omega)
  obtain ⟨v, hv'⟩ : ∃ v, wordN bs = v := ⟨_, rfl⟩
  rw [hv'] at H hv ⊢
  have HX := hide (extend_yes (8 * n) to sg v w (by unfold widthsOk; unfold loadOk at h; omega) hv)
  clear hv'
  obtain ⟨h1, h2⟩ := h
  have h2' : to = 32 ∨ to = 64 := by omega
  clear h2
  rcases h1 with rfl | rfl | rfl <;> rcases h2' with rfl | rfl
  all_goals
    go_enter Tryd.func13, Tryd.ntmps13
    go_wp2_with fail
    refine H.out.mono ?_; rintro e w' ⟨rfl, rfl⟩
    go_wp2_with fail
    refine HX.out.mono ?_; rintro e w' ⟨rfl, rfl⟩
    go_wp2_with fail
    go_ret2
    exact ⟨rfl, rfl⟩
set_option maxHeartbeats 1600000 in
theorem load_arg (A : Option Addr) (cap : Nat) (bs : List UInt8) (n : Nat) (to : Int) (hn : Hid (bs.length = n)) (sg : Bool) (w : World) (hc : countedN n) (h : ¬ loadOk n to) (h8 : ¬ (n = 8 ∧ to = 64)) (hr : Hid (Reads w w.heap.size 1 A n (bs.map B))) :
    Calls Tryd.prog 13 #[.slice A n cap, .int .i64 to, .bool sg] w fun e w' => e = .returned (.tuple #[.int .u64 0, .int .i64 1]) ∧ w = w' := by
  have H := hide (word_yes A cap bs n hn w hc hr)
  have hv := wordN_lt64 hn.out (by unfold countedN at hc; omega)
  obtain ⟨v, hv'⟩ : ∃ v, wordN bs = v := ⟨_, rfl⟩
  rw [hv'] at H hv
  have HX := hide (extend_no (8 * n) to sg v w (by unfold widthsOk; unfold loadOk at h; unfold countedN at hc; omega))
  clear hv'
  unfold countedN at hc
  have hc' : n = 1 ∨ n = 2 ∨ n = 4 ∨ n = 8 := by omega
  by_cases h64 : to = 64
  · subst h64
    unfold loadOk at h
    omega
  · have e64 : (to == 64) = false := by simp; omega
    clear h h8 h64 hc
    rcases hc' with rfl | rfl | rfl | rfl
    all_goals
      go_enter Tryd.func13, Tryd.ntmps13
      go_wp2_with fail
      refine H.out.mono ?_; rintro e w' ⟨rfl, rfl⟩
      go_wp2_with fail
      refine HX.out.mono ?_; rintro e w' ⟨rfl, rfl⟩
      go_wp2_with fail
      go_ret2
      exact ⟨rfl, rfl⟩
end Go.Proofs.YtpphkfolhlkaiaaDoor
