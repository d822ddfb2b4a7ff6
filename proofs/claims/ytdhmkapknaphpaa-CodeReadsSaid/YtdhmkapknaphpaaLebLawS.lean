/-
  Numbers with a sign as bytes: the program's answer is the reference's, in plain Lean.
-/
import Derived.Test.YtdhmkapknaphpaaLebT
import Derived.Test.YtdhmkapknaphpaaLebAll
namespace Go.Proofs.Ytdhmkapknaphpaa

theorem sval_val : ∀ (l : List Bool), l ≠ [] → sval l = if valB l < 2 ^ (l.length - 1) then (valB l : Int) else (valB l : Int) - (2 ^ l.length : Nat) := by
  intro l
  induction l with
  | nil => intro h; exact absurd rfl h
  | cons b r ih =>
    intro _
    cases r with
    | nil => cases b <;> simp [sval, valB]
    | cons c r =>
      have hv : valB (b :: c :: r) = (if b then 1 else 0) + 2 * valB (c :: r) := rfl
      rw [sval_cons _ _ (by simp), ih (by simp), hv]
      generalize valB (c :: r) = v
      simp only [List.length_cons, Nat.add_sub_cancel]
      have e1 : (2 : Nat) ^ (r.length + 1) = 2 * 2 ^ r.length := by rw [Nat.pow_succ]; omega
      have e2 : (2 : Nat) ^ (r.length + 1 + 1) = 4 * 2 ^ r.length := by rw [Nat.pow_succ, Nat.pow_succ]; omega
      rw [e1, e2]
      generalize (2 : Nat) ^ r.length = q
      cases b <;> simp only [if_true, Bool.false_eq_true, if_false] <;> split <;> split <;> omega

theorem valB_take (l : List Bool) (m : Nat) (h : m ≤ l.length) : valB (l.take m) = valB l % 2 ^ m := by
  have e := valB_append (l.take m) (l.drop m)
  rw [List.take_append_drop, List.length_take, Nat.min_eq_left h] at e
  have hl := valB_lt (l.take m)
  rw [List.length_take, Nat.min_eq_left h] at hl
  rw [e, Nat.add_mul_mod_self_left, Nat.mod_eq_of_lt hl]

theorem top_bit (l : List Bool) (h : Nat) (hl : h < l.length) : (2 ^ h ≤ valB (l.take (h + 1))) ↔ l.getD h false = true := by
  have hh : l[h]? = some l[h] := List.getElem?_eq_getElem hl
  rw [List.take_succ_eq_append_getElem hl, valB_append, List.length_take, Nat.min_eq_left (by omega), List.getD_eq_getElem?_getD, hh]
  have hlt := valB_lt (l.take h)
  rw [List.length_take, Nat.min_eq_left (by omega)] at hlt
  simp only [Option.getD_some, valB]
  cases l[h] <;> simp <;> omega

theorem same_bits : ∀ (c : Fin 128) (u : Fin 7) (b : Bool), ((bitsK c.val 7).drop u.val).all (fun x => x == b) = decide (c.val / 2 ^ u.val = if b then 2 ^ (7 - u.val) - 1 else 0) := by decide +kernel

theorem signed_law (bs : List UInt8) (n : Int) : signedL bs n = refSignedL bs n := by
  unfold signedL refSignedL rawL readL
  by_cases hn : n < 1 ∨ 64 < n
  · rw [if_pos hn, if_pos hn]; rfl
  · rw [if_neg hn, if_neg hn]
    obtain ⟨N, rfl⟩ : ∃ N : Nat, n = N := ⟨n.toNat, by omega⟩
    rw [show (N : Int).toNat = N from rfl]
    rcases raw_read N (by omega) (by omega) bs 0 0 [] (by unfold cntN; omega) rfl rfl with ⟨l', size, c, e1, e2, e3, e4, e5, e6⟩ | ⟨e, e1, e2, e3⟩
    · rw [e1, e2]
      simp only [ne_eq, not_true_eq_false, if_false]
      have hcn : cntN N = (N + 6) / 7 := rfl
      have hlen : (l' ++ bitsK c 7).length = 7 * size := by rw [List.length_append]; simp [bitsK]; omega
      have hdrop : ∀ k, l'.length ≤ k → (l' ++ bitsK c 7).drop k = (bitsK c 7).drop (k - l'.length) := fun k hk => by
        rw [List.drop_append, List.drop_eq_nil_of_le hk, List.nil_append]
      rw [hlen]
      obtain ⟨m, hm⟩ : ∃ m, min (7 * size) N = m := ⟨_, rfl⟩
      have hm2 : min N (7 * size) = m := by omega
      rw [hm, hm2]
      generalize hL : l' ++ bitsK c 7 = L at *
      have hm1 : 1 ≤ m := by omega
      have hml : m ≤ L.length := by omega
      have hne : L.take m ≠ [] := fun h => by
        have := congrArg List.length h
        rw [List.length_take, Nat.min_eq_left hml] at this
        simp at this
        omega
      have hne' : L.take (m - 1 + 1) ≠ [] := by rw [show m - 1 + 1 = m from by omega]; exact hne
      have hout : extendL (valB L % 2 ^ 64) m = sval (L.take (m - 1 + 1)) := by
        rw [show m - 1 + 1 = m from by omega, sval_val _ hne, List.length_take, Nat.min_eq_left hml, valB_take L m hml]
        unfold extendL
        rw [Nat.mod_mod_of_dvd _ (Nat.pow_dvd_pow 2 (show m ≤ 64 by omega))]
      have hneg : sval (L.take (m - 1 + 1)) < 0 ↔ L.getD (m - 1) false = true := by
        rw [← top_bit L (m - 1) (by omega), sval_val _ hne', List.length_take, Nat.min_eq_left (by omega)]
        have hlt := valB_lt (L.take (m - 1 + 1))
        rw [List.length_take, Nat.min_eq_left (by omega)] at hlt
        simp only [Nat.add_sub_cancel]
        split <;> omega
      have htop : L[m - 1]? = some (L.getD (m - 1) false) := by
        rw [List.getD_eq_getElem?_getD, List.getElem?_eq_getElem (by omega)]; rfl
      rw [hout, all_drop htop]
      simp only [beq_self_eq_true, Bool.true_and]
      rw [show m - 1 + 1 = m from by omega] at hneg ⊢
      by_cases h7 : 7 * size ≤ N
      · have hb : beyondL c size N = (0, 0) := by unfold beyondL; rw [if_pos h7]
        rw [hb, List.drop_eq_nil_of_le (by omega)]
        simp
      · have hb : beyondL c size N = (c / 2 ^ (N - l'.length), 7 - (N - l'.length)) := by
          unfold beyondL
          rw [if_neg h7, Nat.mod_eq_of_lt e4, show N + 7 - 7 * size = N - l'.length from by omega, show 7 * size - N = 7 - (N - l'.length) from by omega]
        have hmN : m = N := by omega
        subst hmN
        rw [hb, hdrop m (by omega)]
        have hs := same_bits ⟨c, e4⟩ ⟨m - l'.length, by omega⟩ (L.getD (m - 1) false)
        simp only at hs
        rw [hs]
        have hif : (if sval (L.take m) < 0 then 2 ^ (7 - (m - l'.length)) - 1 else 0) = (if L.getD (m - 1) false = true then 2 ^ (7 - (m - l'.length)) - 1 else 0) := by
          by_cases hg : L.getD (m - 1) false = true
          · rw [if_pos (hneg.2 hg), if_pos hg]
          · rw [if_neg (fun h => hg (hneg.1 h)), if_neg hg]
        rw [hif]
        have hpos : 0 < 7 - (m - l'.length) := by omega
        by_cases hq : c / 2 ^ (m - l'.length) = (if L.getD (m - 1) false = true then 2 ^ (7 - (m - l'.length)) - 1 else 0)
        · rw [if_neg (fun h => h.2 hq), if_pos (by simpa using hq)]
        · rw [if_pos ⟨hpos, hq⟩, if_neg (by simpa using hq)]
    · rw [e1, e2]
      simp [e3]
end Go.Proofs.Ytdhmkapknaphpaa
