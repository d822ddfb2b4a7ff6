import Derived.Test.YtomppgohoplemaaGreatNAB
import Derived.Test.YtomppgohoplemaaGreatNAC
import Derived.Test.YtomppgohoplemaaGreatNBQ
import Derived.Below
import Derived.BigQuiet
import Derived.Deep.AppendLies
import Derived.Deep.DeepCutAuto
import Derived.Deep.QuietTactic
import Derived.Deep.RegionHeld3
import Derived.Deep.RegionLaw
import Derived.DeepKeys4
import Derived.IntWalk
import Derived.Lib.SliceRun
import Derived.MapViews
import Derived.Maps.OwnSet
import Derived.Maps.RangeWalk
import Derived.Orders
import Derived.Outline
import Derived.Tactics
namespace Go.Proofs.YtomppgohoplemaaGreat
section
open Go.RowKit
section
variable {P : Program} {ops : Array Oper}
theorem wp_region_factsR {R : World → World → Prop} (hR : IsExt R) {id : Nat} {l : List Oper} {Q : Exit → Act → World → Prop} {a0 : Act} {w0 : World} (F : Nat → Value → World → Prop) (hm : P.follows .mixedOrders = true) (hok : okB a0.tmps.size l 0 = true)
    (hobs : ObsR R P l F a0 w0 l 0)
    (hend : ∀ (vs : Nat → Value) (W : World), R w0 W → (∀ i, i < l.length → WasR R (F i) (vs i) W) → Q .normal (fillL l 0 vs a0) W) : (Code.region id l.toArray true).wp P Q a0 w0 := by
  refine wp_region_any hm (any_of_mid hR rfl hok hobs hend _ _ _ _ ⟨by simp, rfl, rfl, hR.drew _, fun t _ => rfl, fun i o hi hl => ?_⟩ ?_)
  · exfalso
    rw [Array.getElem?_replicate] at hl
    split at hl <;> simp at hl
  · rw [Array.toList_replicate]
    refine Nat.le_trans List.count_le_length ?_
    simp
section
variable {o : Oper} {ρ : Operand → Value} {W : World} {post : Value → World → Prop}
end
end
end
section
open Go.RowKit Go.Maps
set_option linter.unusedVariables false
section
variable {P : Program} {t k e : TypeId} {κ δ : Type} {ok : κ → Prop} {kv : κ → Value} {dv : δ → Value} {zero : δ}
variable {K : MapK P t k e ok kv dv zero} {w w' : World} {b n : Nat} {F : κ → Option δ}
theorem FMap.look1 (h : FMap K w b n F) {x : κ} (hx : ok x) : (Instr.lookup t (.map (some b)) (kv x) false).run P w = .ok (dv ((F x).getD zero)) w := by
  obtain ⟨D, h1, h2, h3⟩ := h
  obtain ⟨l, hl⟩ := K.key x hx
  obtain ⟨v, ps, hr, hv⟩ := h2.lookup K.keyed K.ty (K.zer w) (K.read zero) hl
  obtain ⟨a1, a2⟩ := h3 x l hx hl
  rw [hr]
  cases hF : F x with
  | none =>
    rw [atKey_of_not_has (a2 hF)] at hv
    rw [K.back v zero ps hv]
    rfl
  | some d =>
    obtain ⟨b1, b2⟩ := a1 d hF
    rw [b2] at hv
    rw [K.back v d ps hv]
    rfl
end
end
section
open Go.RowKit
set_option linter.unusedVariables false
theorem rbyteN_val (a k : Nat) : Value.int .u8 ((a : Int) / 2 ^ (8 * k) % 256) = B (rbyteN a k) := by
  unfold rbyteN
  rw [← B_ofNat _ (Nat.mod_lt _ (by omega)), Int.natCast_emod, Int.natCast_ediv, Int.natCast_pow]
  rfl
theorem rbytesN_succ (a n : Nat) : rbytesN a (n + 1) = rbytesN a n ++ [rbyteN a n] := by
  unfold rbytesN; rw [List.range_succ, List.map_append]; rfl
theorem bytes_wordA (a : Nat) : ∀ n, rwordN (rbytesN a n) = a % 2 ^ (8 * n) := by
  intro n
  induction n with
  | zero => simp [rbytesN, rwordN, Nat.mod_one]
  | succ n ih =>
    rw [rbytesN_succ, rwordN_append, ih, rbytesN_len]
    unfold rbyteN
    rw [UInt8.toNat_ofNat', Nat.mod_mod_of_dvd _ (by exact ⟨1, rfl⟩)]
    have h : (2 : Nat) ^ (8 * (n + 1)) = 2 ^ (8 * n) * 256 := by rw [Nat.mul_succ, Nat.pow_add]
    rw [h, Nat.mod_mul]
def wordsB (ws : List Nat) : List UInt8 := ws.flatMap (fun v => rbytesN v 4)
theorem wordsB_len : ∀ ws : List Nat, (wordsB ws).length = 4 * ws.length
  | [] => rfl
  | v :: ws => by
    have h := wordsB_len ws
    unfold wordsB at h ⊢
    rw [List.flatMap_cons, List.length_append, h, rbytesN_len, List.length_cons]
    omega
theorem wordsB_app (a b : List Nat) : wordsB (a ++ b) = wordsB a ++ wordsB b := by unfold wordsB; rw [List.flatMap_append]
theorem setB_words (ws : List Nat) (rest : List UInt8) (v : Nat) : setB (wordsB ws ++ rest) (4 * ws.length) (rbytesN v 4) = wordsB (ws ++ [v]) ++ rest.drop 4 := by
  unfold setB
  rw [rbytesN_len, ← wordsB_len, List.take_left, wordsB_app, List.append_assoc]
  congr 1
  rw [show wordsB [v] = rbytesN v 4 by simp [wordsB]]
  congr 1
  rw [List.drop_append]
  rw [List.drop_eq_nil_of_le (by omega), List.nil_append]
  congr 1
  omega
theorem words_at : ∀ (ws : List Nat) (rest : List UInt8) (j : Nat) (v : Nat), ws[j]? = some v → ((wordsB ws ++ rest).drop (4 * j)).take 4 = rbytesN v 4
  | [], _, _, _, h => by simp at h
  | x :: ws, rest, 0, v, h => by
    simp at h
    subst h
    have : wordsB (x :: ws) = rbytesN x 4 ++ wordsB ws := by unfold wordsB; rw [List.flatMap_cons]
    rw [this, List.append_assoc, Nat.mul_zero, List.drop_zero]
    have h4 := rbytesN_len x 4
    rw [List.take_append_of_le_length (by omega), List.take_of_length_le (by omega)]
  | x :: ws, rest, j + 1, v, h => by
    have : wordsB (x :: ws) = rbytesN x 4 ++ wordsB ws := by unfold wordsB; rw [List.flatMap_cons]
    rw [this, List.append_assoc, show 4 * (j + 1) = (rbytesN x 4).length + 4 * j by rw [rbytesN_len]; omega, List.drop_append, List.drop_eq_nil_of_le (by omega), List.nil_append, show (rbytesN x 4).length + 4 * j - (rbytesN x 4).length = 4 * j by omega]
    exact words_at ws rest j v (by simpa using h)
theorem word_at {ws : List Nat} {rest : List UInt8} {j v : Nat} (h : ws[j]? = some v) (hv : v < 4294967296) : rwordN (((wordsB ws ++ rest).drop (4 * j)).take 4) = v := by
  rw [words_at ws rest j v h, bytes_wordA]
  exact Nat.mod_eq_of_lt (by simpa using hv)
def jmpW (j : Jmp) : List Nat := [j.dest, j.keep, j.h]
theorem jmpW_len : ∀ l : List Jmp, (l.flatMap jmpW).length = 3 * l.length
  | [] => rfl
  | j :: l => by rw [List.flatMap_cons, List.length_append, jmpW_len l]; simp [jmpW]; omega
theorem jmpW_at {l : List Jmp} {i : Nat} {j : Jmp} (h : l[i]? = some j) : (l.flatMap jmpW)[3 * i]? = some j.dest ∧ (l.flatMap jmpW)[3 * i + 1]? = some j.keep ∧ (l.flatMap jmpW)[3 * i + 2]? = some j.h := by
  induction l generalizing i with
  | nil => simp at h
  | cons x l ih =>
    rw [List.flatMap_cons]
    cases i with
    | zero => simp at h; subst h; simp [jmpW]
    | succ i =>
      obtain ⟨a, b, c⟩ := ih (by simpa using h)
      have e : ∀ k, (jmpW x ++ l.flatMap jmpW)[3 * (i + 1) + k]? = (l.flatMap jmpW)[3 * i + k]? := fun k => by
        rw [List.getElem?_append_right (by simp [jmpW]; omega)]
        congr 1
        simp [jmpW]
        omega
      exact ⟨(e 0).trans a, (e 1).trans b, (e 2).trans c⟩
def clsL : Nat → Nat → Nat → Nat
  | 0, c, _ => c
  | f + 1, c, n => if c < n then clsL f (c * 2) n else c
def clsN (n : Nat) : Nat := clsL 19 16 n
theorem clsL_ge : ∀ (f c n : Nat), n ≤ c * 2 ^ f → n ≤ clsL f c n
  | 0, c, n, h => by simpa [clsL] using h
  | f + 1, c, n, h => by
    unfold clsL
    split
    · exact clsL_ge f (c * 2) n (by rw [Nat.pow_succ] at h; rw [Nat.mul_assoc, Nat.mul_comm 2]; exact h)
    · omega
theorem clsL_le : ∀ (f c n : Nat), clsL f c n ≤ c * 2 ^ f
  | 0, c, n => by simp [clsL]
  | f + 1, c, n => by
    unfold clsL
    split
    · have := clsL_le f (c * 2) n
      rw [Nat.pow_succ, Nat.mul_comm (2 ^ f), ← Nat.mul_assoc]
      exact this
    · exact Nat.le_mul_of_pos_right _ (Nat.two_pow_pos _)
theorem clsN_ge {n : Nat} (h : n ≤ 4194304) : n ≤ clsN n := clsL_ge 19 16 n (by simp; omega)
theorem clsN_le (n : Nat) : clsN n ≤ 8388608 := clsL_le 19 16 n
theorem clsL_pos : ∀ (f c n : Nat), 0 < c → 0 < clsL f c n
  | 0, c, n, h => by simpa [clsL] using h
  | f + 1, c, n, h => by
    unfold clsL
    split
    · exact clsL_pos f (c * 2) n (by omega)
    · exact h
end
section
open Go.RowKit Go.Maps
set_option linter.unusedVariables false
theorem below_drA {B : Nat} {a b : World} (h : Below B a b) (d : Nat) : Below B a (b.drewN d) := ⟨h.os, h.tape, h.output, h.size, h.block⟩
theorem setB_step {bs : List UInt8} {i k a : Nat} (hi : i + 4 ≤ bs.length) (hk : k < 4) : (setB bs i ((rbytesN a 4).take k)).set (i + k) (rbyteN a k) = setB bs i ((rbytesN a 4).take (k + 1)) := by
  have h4 := rbytesN_len a 4
  have hb : (rbytesN a 4)[k]? = some (rbyteN a k) := by
    unfold rbytesN
    rw [List.getElem?_map, List.getElem?_range hk]
    rfl
  have htk : ((rbytesN a 4).take k).length = k := by rw [List.length_take]; omega
  have hti : (bs.take i).length = i := by rw [List.length_take]; omega
  have hs : (rbytesN a 4).take (k + 1) = (rbytesN a 4).take k ++ [rbyteN a k] := by rw [List.take_add_one, hb]; rfl
  unfold setB
  rw [hs, htk, List.length_append, htk, List.set_append_right _ _ (by omega), hti, Nat.add_sub_cancel_left, List.set_append_right _ _ (by omega), htk, Nat.sub_self, List.append_assoc]
  rw [List.drop_eq_getElem_cons (show i + k < bs.length by omega)]
  rfl
set_option maxRecDepth 100000 in
set_option maxHeartbeats 800000 in
theorem aput_ok (s : ArS) (i a : Nat) (w : World) (h : Hid (Ar w s)) (hi : i + 4 ≤ s.size) (ha : a ≤ 18446744073709551615) :
    Calls Tryz.prog 27 #[.pointer (some ⟨s.ag, 0, none⟩), .int .i64 (i : Int), .int .i64 4, .int .u64 (a : Int)] w fun e w' => e = .returned (.int .i64 0) ∧ Hid (Ar w' (s.put i a)) ∧ Hid (Only [s.bb] w w') := by
  have H := hide (aword_ok s i w h hi)
  have hsz := h.out.sz
  have hlen := hide h.out.len
  go_enter Tryz.func27, Tryz.ntmps27
  go_wp2_with fail
  refine H.out.mono ?_; rintro e w' ⟨rfl, rfl⟩
  go_wp2_with fail
  go_loopw [11, 21] (fun _ i2 w2 => ∃ k : Nat, i2 = .int .i64 k ∧ k ≤ 4 ∧ Hid (w2.heap[s.bb]? = some (.cells ((setB s.bs i ((rbytesN a 4).take k)).map B).toArray 5 (0, 0))) ∧ Hid (Only [s.bb] w w2)) (fun _ i2 _ => 4 - (intOf i2).toNat)
  case atStart => exact ⟨0, rfl, by omega, by show _ = _; rw [List.take_zero]; unfold setB; rw [List.nil_append, List.length_nil, Nat.add_zero, List.take_append_drop]; exact h.out.mem, Only.refl _ _⟩
  case round =>
    obtain ⟨k, rfl, hk, hm, hon⟩ := hrel
    by_cases hlt : k < 4
    · have hfr := frozen_blk hm.out (i + k)
      have hlb : (setB s.bs i ((rbytesN a 4).take k)).length = s.size := by rw [setB_len (by rw [List.length_take, rbytesN_len, hlen.out]; omega), hlen.out]
      obtain ⟨u, hu⟩ : ∃ u, ((setB s.bs i ((rbytesN a 4).take k)).map B)[i + k]? = some u := ⟨_, List.getElem?_eq_getElem (by rw [List.length_map, hlb]; omega)⟩
      have hc : wr.cell? ⟨s.bb, i + k, none⟩ = some u := (cell_blk hm.out (i + k)).trans (by rw [List.getElem?_toArray]; exact hu)
      have hm3 : Hid ((wr.setCell ⟨s.bb, i + k, none⟩ (.int .u8 ((a : Int) / 2 ^ (8 * k) % 256))).heap[s.bb]? = some (.cells ((setB s.bs i ((rbytesN a 4).take (k + 1))).map B).toArray 5 (0, 0))) := by
        show _ = _
        rw [setCell_blk hm.out (i + k), rbyteN_val, ← setB_step (by rw [hlen.out]; exact hi) hlt, List.map_set]
        simp
      have ho3 := hide (hon.out.trans (Only.setCell wr (p := ⟨s.bb, i + k, none⟩) (by simp) (.int .u8 ((a : Int) / 2 ^ (8 * k) % 256))))
      clear hu hlb
      go_wp2_with fail
      go_roundw
      case rel => exact ⟨k + 1, by go_num, by omega, hm3, ho3⟩
      case measure => simp [intOf] <;> omega
    · have hkn : k = 4 := by omega
      subst hkn
      clear hlt
      go_wp2_with fail
      go_ret
      have hm2 := hm.out
      rw [List.take_of_length_le (by rw [rbytesN_len]; exact Nat.le_refl _)] at hm2
      exact ⟨rfl, h.out.put hon.out hi hm2, hon⟩
set_option maxRecDepth 100000 in
set_option maxHeartbeats 800000 in
theorem alive_any (s : ArS) (w : World) (h : Hid (Ar w s)) :
    Calls Tryz.prog 16 #[.pointer (some ⟨s.ag, 0, none⟩)] w fun e w' => e = .returned (.int .i64 (s.live : Int)) ∧ w = w' := by
  have c2 : w.cell? ⟨s.ag, 2, none⟩ = some (.int .i64 s.live) := cell_blk h.out.blk 2
  go_enter Tryz.func16, Tryz.ntmps16
  go_wp2_with fail
  go_ret
  exact ⟨rfl, rfl⟩
set_option maxRecDepth 100000 in
set_option maxHeartbeats 800000 in
theorem aclass_any (n : Nat) (w : World) (hn : n ≤ 4194304) :
    Calls Tryz.prog 11 #[.int .i64 (n : Int)] w fun e w' => e = .returned (.int .i64 (clsN n : Int)) ∧ w = w' := by
  obtain ⟨R, hR⟩ : ∃ R, clsN n = R := ⟨_, rfl⟩
  rw [hR]
  have HR : Hid (clsL 19 16 n = R) := hR
  clear hR
  go_enter Tryz.func11, Tryz.ntmps11
  go_wp2_with fail
  go_loop [3] (fun v => ∃ f c : Nat, v = .int .i64 (c : Int) ∧ f ≤ 19 ∧ Hid (c * 2 ^ f = 8388608) ∧ c ≤ 8388608 ∧ Hid (clsL f c n = R)) (fun v => 8388608 - (intOf v).toNat)
  case atStart => exact ⟨19, 16, rfl, by omega, rfl, by omega, HR⟩
  case round =>
    obtain ⟨f, c, rfl, hf, hp, hc, hr⟩ := hrel
    by_cases hlt : c < n
    · have hci : (c : Int) < (n : Int) := by omega
      obtain ⟨f1, rfl⟩ : ∃ f1, f = f1 + 1 := ⟨f - 1, by
        rcases Nat.eq_zero_or_pos f with h0 | h0
        · subst h0
          have := hp.out
          simp at this
          omega
        · omega⟩
      have hp2 : Hid (c * 2 * 2 ^ f1 = 8388608) := by
        show _ = _
        rw [← hp.out, Nat.pow_succ, Nat.mul_assoc, Nat.mul_comm 2]
      have hr2 : Hid (clsL f1 (c * 2) n = R) := by
        show _ = _
        rw [← hr.out]
        conv => rhs; unfold clsL
        rw [if_pos hlt]
      have hc0 : 0 < c := by
        rcases Nat.eq_zero_or_pos c with h0 | h0
        · subst h0
          have := hp.out
          simp at this
        · exact h0
      clear hp hr
      go_wp2_with fail
      go_round
      case rel => exact ⟨f1, c * 2, by go_num, by omega, hp2, by omega, hr2⟩
      case measure => simp [intOf] <;> omega
    · have hci : ¬ ((c : Int) < (n : Int)) := by omega
      have hcR : c = R := by
        rw [← hr.out]
        cases f with
        | zero => rfl
        | succ f => unfold clsL; rw [if_neg hlt]
      subst hcR
      clear hp hr hlt HR
      go_wp2_with fail
      go_ret
      exact ⟨rfl, rfl⟩
set_option maxRecDepth 100000 in
set_option maxHeartbeats 800000 in
theorem aplace_no (s : ArS) (c : Nat) (w : World) (h : Hid (Ar w s)) (hc : s.size < c + s.hgt) (hc2 : c ≤ 8388608) :
    Calls Tryz.prog 39 #[.pointer (some ⟨s.ag, 0, none⟩), .int .i64 (c : Int)] w fun e w' => e = .returned (.tuple #[.int .i64 0, .bool false]) ∧ Hid (Below w.heap.size w w') := by
  have c0 := h.out.c0
  have c1 : w.cell? ⟨s.ag, 1, none⟩ = some (.int .i64 s.hgt) := cell_blk h.out.blk 1
  have c4 : w.cell? ⟨s.ag, 4, none⟩ = some (.map (some s.gb)) := cell_blk h.out.blk 4
  have hlk : (Instr.lookup 104 (.map (some s.gb)) (.int .i64 (c : Int)) false).run Tryz.prog w = .ok (.slice none 0 0) w := h.out.gv.look1 (ok64 (by omega) (by omega))
  have hz := h.out.sz
  have hh := h.out.hs
  have h1 : (s.size : Int) - (s.hgt : Int) < (c : Int) := by omega
  clear hc
  go_enter Tryz.func39, Tryz.ntmps39
  go_wp2_with fail
  go_quiet (fail)
  go_wp2_with fail
  go_ret2
  exact ⟨rfl, below_drA (Below.refl _ _) _⟩
set_option maxRecDepth 100000 in
set_option maxHeartbeats 800000 in
theorem aplace_yes (s : ArS) (c : Nat) (w : World) (h : Hid (Ar w s)) (hc : c + s.hgt ≤ s.size) :
    Calls Tryz.prog 39 #[.pointer (some ⟨s.ag, 0, none⟩), .int .i64 (c : Int)] w fun e w' => e = .returned (.tuple #[.int .i64 s.hgt, .bool true]) ∧ Hid (Ar w' { s with hgt := s.hgt + c }) ∧ Hid (Only [s.ag] w w') := by
  have c0 := h.out.c0
  have c1 : w.cell? ⟨s.ag, 1, none⟩ = some (.int .i64 s.hgt) := cell_blk h.out.blk 1
  have f1 := frozen_blk h.out.blk 1
  have c4 : w.cell? ⟨s.ag, 4, none⟩ = some (.map (some s.gb)) := cell_blk h.out.blk 4
  have hz := h.out.sz
  have hh := h.out.hs
  have hlk : (Instr.lookup 104 (.map (some s.gb)) (.int .i64 (c : Int)) false).run Tryz.prog w = .ok (.slice none 0 0) w := h.out.gv.look1 (ok64 (by omega) (by omega))
  have h1 : ¬ ((s.size : Int) - (s.hgt : Int) < (c : Int)) := by omega
  go_enter Tryz.func39, Tryz.ntmps39
  go_wp2_with fail
  go_quiet (fail)
  go_wp2_with fail
  go_ret2
  have ho : Only [s.ag] w ((w.drewN nq).setCell ⟨s.ag, 1, none⟩ (.int .i64 ((s.hgt : Int) + (c : Int)))) := (Only.drewN [s.ag] w nq).trans (Only.setCell _ (p := ⟨s.ag, 1, none⟩) (by simp) _)
  refine ⟨rfl, h.out.turn ho (s.hgt + c) s.live (by omega) ?_, ho⟩
  have hk : (w.drewN nq).heap[s.ag]? = w.heap[s.ag]? := rfl
  rw [setCell_blk (hk.trans h.out.blk) 1]
  simp
set_option maxRecDepth 100000 in
set_option maxHeartbeats 800000 in
theorem atake_full (s : ArS) (m : Nat) (w : World) (h : Hid (Ar w s)) (hm : m ≤ 4194304) (hc : s.size < clsN m + s.hgt) :
    Calls Tryz.prog 26 #[.pointer (some ⟨s.ag, 0, none⟩), .int .i64 (m : Int)] w fun e w' => e = .returned (.tuple #[.int .i64 0, .int .i64 8]) ∧ Hid (Below w.heap.size w w') := by
  have HC := hide (aclass_any m w hm)
  have HP := hide (aplace_no s (clsN m) w h hc (clsN_le m))
  generalize clsN m = c at *
  go_enter Tryz.func26, Tryz.ntmps26
  go_wp2_with fail
  refine HC.out.mono ?_; rintro e w' ⟨rfl, rfl⟩
  go_wp2_with fail
  refine HP.out.mono ?_; rintro e w1 ⟨rfl, hb⟩
  go_wp2_with fail
  go_ret2
  exact ⟨rfl, hb⟩
def ArS.took (s : ArS) (c : Nat) : ArS := { s with hgt := c, live := c, nt := 1, F := fun y => if y = 0 then some (c : Int) else none }
theorem setCells_same {z : Value} {t : TypeId} (b n : Nat) : ∀ (k o : Nat) (w : World), w.heap[b]? = some (.cells (List.replicate n z).toArray t (0, 0)) → o + k ≤ n →
    (w.setCells b o (List.replicate k z)).heap[b]? = some (.cells (List.replicate n z).toArray t (0, 0)) ∧ Only [b] w (w.setCells b o (List.replicate k z))
  | 0, o, w, h, _ => ⟨h, Only.refl _ _⟩
  | k + 1, o, w, h, hk => by
    have h1 : (w.setCell ⟨b, o, none⟩ z).heap[b]? = some (.cells (List.replicate n z).toArray t (0, 0)) := by
      rw [setCell_blk h o]
      simp
    obtain ⟨a, c⟩ := setCells_same b n k (o + 1) _ h1 (by omega)
    rw [List.replicate_succ]
    exact ⟨a, (Only.setCell w (p := ⟨b, o, none⟩) (by simp) z).trans c⟩
set_option maxRecDepth 100000 in
set_option maxHeartbeats 800000 in
theorem atake_ok (s : ArS) (n base m : Nat) (w : World) (h : Hid (Ar w s)) (hN : Hid (NewAr s n base)) (hm : m ≤ 4194304) (hc : clsN m ≤ s.size) (hc0 : 0 < clsN m) :
    Calls Tryz.prog 26 #[.pointer (some ⟨s.ag, 0, none⟩), .int .i64 (m : Int)] w fun e w' => e = .returned (.tuple #[.int .i64 0, .int .i64 0]) ∧ Hid (Ar w' (s.took (clsN m))) ∧ Hid (Only [s.ag, s.bb, s.tb] w w') := by
  have HC := hide (aclass_any m w hm)
  have HP := hide (aplace_yes s (clsN m) w h (by have := hN.out.hgt; omega))
  generalize clsN m = c at *
  have hz := h.out.sz
  rw [hN.out.hgt, Nat.zero_add] at HP
  go_enter Tryz.func26, Tryz.ntmps26
  go_wp2_with fail
  refine HC.out.mono ?_; rintro e w' ⟨rfl, rfl⟩
  go_wp2_with fail
  refine HP.out.mono ?_; rintro e w1 ⟨rfl, ha1, ho1⟩
  have c0 := ha1.out.c0
  have c2 : w1.cell? ⟨s.ag, 2, none⟩ = some (.int .i64 s.live) := cell_blk ha1.out.blk 2
  have c3 : w1.cell? ⟨s.ag, 3, none⟩ = some (.map (some s.tb)) := cell_blk ha1.out.blk 3
  have hcs : (c : Int) ≤ (s.size : Int) := by omega
  have hz2 : (s.size : Int) ≤ 65535 := by omega
  have hzs : (s.bs.map B) = List.replicate s.size (.int .u8 0) := by rw [hN.out.bs, hN.out.size]; simp [B]
  have hm1 : w1.heap[s.bb]? = some (.cells (List.replicate s.size (Value.int .u8 0)).toArray 5 (0, 0)) := by rw [← hzs]; exact ha1.out.mem
  have hcl := Lib.run_clear_slice (P := Tryz.prog) w1 48 5 0 (.int .u8 0) Tryz.underlying48 (fun w => by kernel_rfl) rfl rfl s.bb 0 c s.size hc0
    (fun j hj => by rw [cell_blk hm1]; simp; omega) (fun j hj => frozen_blk hm1 _)
  obtain ⟨hm2, ho2⟩ := setCells_same s.bb s.size c 0 w1 hm1 (by omega)
  obtain ⟨w2, hw2⟩ : ∃ w2, w1.setCells s.bb 0 (List.replicate c (.int .u8 0)) = w2 := ⟨_, rfl⟩
  rw [hw2] at hcl hm2 ho2
  have ha2 : Ar w2 { s with hgt := c } := ⟨(ho2.block s.ag (blk_lt ha1.out.blk) (by simp; exact fun e => ha1.out.ne1 e.symm)).trans ha1.out.blk, hzs ▸ hm2, ha1.out.len, ha1.out.sz, ha1.out.hs, ha1.out.tk.only ho2 (by simp; exact ha1.out.ne2.2), ha1.out.gv.only ho2 (by simp; exact ha1.out.ne3.2.1), ha1.out.ne1, ha1.out.ne2, ha1.out.ne3⟩
  have hap := ha2.ne2
  obtain ⟨w3, hmu, hf3, hg3⟩ := ha2.tk.put (x := (0 : Int)) (by rw [show ({ s with hgt := c } : ArS).nt = 0 from hN.out.nt]; unfold maxLen; omega) (ok64 (by omega) (by omega)) (c : Int)
  have ho3 := only_grown hg3
  have hx3 := (ho3.block s.ag (blk_lt ha2.blk) (by simp; exact fun e => hap.1 e.symm)).trans ha2.blk
  have d3 : w2.cell? ⟨s.ag, 3, none⟩ = some (.map (some s.tb)) := cell_blk ha2.blk 3
  have d2 : w3.cell? ⟨s.ag, 2, none⟩ = some (.int .i64 s.live) := cell_blk hx3 2
  have e2 := frozen_blk hx3 2
  have hmu2 : (Instr.mapUpdate 92 (.map (some s.tb)) (.int .i64 0) (.int .i64 (c : Int))).run Tryz.prog w2 = .ok () w3 := hmu
  have ho4 : Only [s.ag, s.bb, s.tb] w (w3.setCell ⟨s.ag, 2, none⟩ (.int .i64 (c : Int))) := ((((ho1.out.more (by simp)).trans (ho2.more (by simp))).trans (ho3.more (by simp))).trans (Only.setCell w3 (p := ⟨s.ag, 2, none⟩) (by simp) _))
  have hA4 : Ar (w3.setCell ⟨s.ag, 2, none⟩ (.int .i64 (c : Int))) (s.took c) := by
    have ho5 : Only [s.ag] w3 (w3.setCell ⟨s.ag, 2, none⟩ (.int .i64 (c : Int))) := Only.setCell w3 (p := ⟨s.ag, 2, none⟩) (by simp) _
    have ho35 : Only [s.tb, s.ag] w2 (w3.setCell ⟨s.ag, 2, none⟩ (.int .i64 (c : Int))) := (ho3.more (by simp)).trans (ho5.more (by simp))
    refine ⟨?_, (ho35.block s.bb (blk_lt ha2.mem) (by simp; exact ⟨fun e => ha2.ne2.2 e.symm, ha2.ne1⟩)).trans ha2.mem, ha2.len, ha2.sz, by have := ha2.hs; exact this, ?_, ha2.gv.only ho35 (by simp; exact ⟨ha2.ne3.2.2, ha2.ne3.1⟩), ha2.ne1, ha2.ne2, ha2.ne3⟩
    · refine (setCell_blk hx3 2 _).trans ?_
      simp [ArS.took]
    · have := hf3.only ho5 (by simp; exact ha2.ne2.1)
      rw [show ({ s with hgt := c } : ArS).nt = 0 from hN.out.nt, show ({ s with hgt := c } : ArS).F = fun _ => none from hN.out.F] at this
      exact this
  have hl0 : (s.live : Int) = 0 := by rw [hN.out.live]; rfl
  rw [hl0] at d2
  have HA4 := hide hA4; have HO4 := hide ho4
  clear hA4 ho4 hx3 hf3 hg3 hmu ho3 hap ha2 hm2 ho2 hw2
  go_wp2_with fail
  go_ret2
  exact ⟨rfl, HA4, HO4⟩
end
section
open Go.RowKit Go.Maps
set_option linter.unusedVariables false
set_option maxRecDepth 100000
theorem natF_at (F : Nat → Option Nat) (i : Nat) : natF F (i : Int) = (F i).map (fun n => (n : Int)) := by
  unfold natF
  rw [if_pos (by omega), Int.toNat_natCast]
section
variable {W0 w w' : World} {m : MkS} {vo : Value} {nj nc nk : Nat} {J : Nat × Nat → Option Jmp} {C K : Nat → Option Nat} {ord : List (Nat × Nat)}
end
end
end Go.Proofs.YtomppgohoplemaaGreat
