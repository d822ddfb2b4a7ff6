/-
  The reference's numbers as bytes: each function's contract.
-/
import Derived.Test.YtiaigkpnhmgphaaLebE
namespace Go.Proofs.Ytiaigkpnhmgphaa
open Go.RowKit
set_option linter.unusedVariables false

/-- a truth as the machine's value -/
def T (b : Bool) : Value := .bool b
theorem bool_elem : IsElem Try.prog 74 4 1 1 := IsElem.mk' Try.underlying74 (z := .bool false) (by kernel_rfl) rfl (by omega)
def OwnT (w : World) (base : Nat) (v : Value) (bs : List Bool) : Prop := w.ownsRow base 4 1 v bs.length (bs.map T)
theorem OwnT.push {w : World} {base : Nat} {v : Value} {bs : List Bool} {b : Bool} (h : w.ownsRow base 4 1 v (bs.length + 1) (bs.map T ++ [T b])) : OwnT w base v (bs ++ [b]) :=
  own_cast h (by simp) (by simp)
theorem OwnT.cast {w : World} {base : Nat} {v : Value} {bs bs' : List Bool} (h : OwnT w base v bs) (e : bs = bs') : OwnT w base v bs' := e ▸ h

def bitN (c k : Nat) : Bool := c / 2 ^ k % 2 == 1
/-- the lowest k bits -/
def bitsK (c : Nat) (k : Nat) : List Bool := (List.range k).map (bitN c)
def readGo (n : Int) : List UInt8 → Nat → List Bool → List Bool × Nat × Nat
  | [], _, _ => ([], 0, 3)
  | c :: r, i, acc =>
    if n ≤ 7 * ((i : Int) + 1) ∧ 128 ≤ c.toNat then ([], 0, 4)
    else if c.toNat < 128 then (acc ++ bitsK c.toNat 7, i + 1, 0)
    else readGo n r (i + 1) (acc ++ bitsK c.toNat 7)
def readL (bs : List UInt8) (n : Int) : List Bool × Nat × Nat :=
  if n < 1 ∨ 64 < n then ([], 0, 1) else readGo n bs 0 []

theorem bitsK_succ (c k : Nat) : bitsK c (k + 1) = bitsK c k ++ [bitN c k] := by
  unfold bitsK; rw [List.range_succ, List.map_append]; rfl

theorem readGo_bad {n : Int} {k : Nat} {acc : List Bool} {bs : List UInt8} {c : UInt8} (hc : bs[k]? = some c) (h1 : n ≤ 7 * ((k : Int) + 1)) (h2 : (128 : Int) ≤ (c.toNat : Int)) : readGo n (bs.drop k) k acc = ([], 0, 4) := by
  obtain ⟨hk, hv⟩ := List.getElem?_eq_some_iff.1 hc
  rw [List.drop_eq_getElem_cons hk, hv, readGo, if_pos ⟨h1, by omega⟩]
theorem readGo_end {n : Int} {k : Nat} {acc : List Bool} {bs : List UInt8} {c : UInt8} (hc : bs[k]? = some c) (h2 : (c.toNat : Int) < 128) : readGo n (bs.drop k) k acc = (acc ++ bitsK c.toNat 7, k + 1, 0) := by
  obtain ⟨hk, hv⟩ := List.getElem?_eq_some_iff.1 hc
  rw [List.drop_eq_getElem_cons hk, hv, readGo, if_neg (by omega), if_pos (by omega)]
theorem readGo_on {n : Int} {k : Nat} {acc : List Bool} {bs : List UInt8} {c : UInt8} (hc : bs[k]? = some c) (h1 : 7 * ((k : Int) + 1) < n) (h2 : (128 : Int) ≤ (c.toNat : Int)) : readGo n (bs.drop k) k acc = readGo n (bs.drop (k + 1)) (k + 1) (acc ++ bitsK c.toNat 7) := by
  obtain ⟨hk, hv⟩ := List.getElem?_eq_some_iff.1 hc
  rw [List.drop_eq_getElem_cons hk, hv, readGo, if_neg (by omega), if_neg (by omega)]
theorem readGo_nil {n : Int} {k : Nat} {acc : List Bool} {bs : List UInt8} (h : bs.length ≤ k) : readGo n (bs.drop k) k acc = ([], 0, 3) := by
  rw [List.drop_eq_nil_of_le h, readGo]

theorem bit_form (c q : Nat) : Value.bool ((((c : Int) / 2 ^ q).tmod 2) == 1) = T (bitN c q) := by
  unfold T bitN
  have h : (c : Int) / 2 ^ q = ((c / 2 ^ q : Nat) : Int) := by rw [Int.natCast_ediv, Int.natCast_pow]; rfl
  rw [h, Int.tmod_eq_emod_of_nonneg (Int.natCast_nonneg _)]
  generalize c / 2 ^ q = d
  congr 1
  rw [Bool.eq_iff_iff]
  simp
  omega

def ReadPost (w : World) (r : List Bool × Nat × Nat) (e : Ending) (w' : World) : Prop :=
  ∃ v, e = .returned (.tuple #[v, .int .i64 r.2.1, .int .i64 r.2.2]) ∧ OwnT w' w.heap.size v r.1 ∧ Below w.heap.size w w'

theorem ReadPost.of {w w' : World} {r : List Bool × Nat × Nat} {l : List Bool} {s e : Nat} {v : Value} (hr : r = (l, s, e)) (ho : OwnT w' w.heap.size v l) (hb : Below w.heap.size w w') :
    ReadPost w r (.returned (.tuple #[v, .int .i64 s, .int .i64 e])) w' := by subst hr; exact ⟨v, rfl, ho, hb⟩

set_option maxHeartbeats 1000000 in
set_option maxRecDepth 100000 in
theorem refRead_in (A : Option Addr) (cap : Nat) (bs : List UInt8) (n : Int) (w : World) (h0 : 1 ≤ n) (h1 : n ≤ 64) (hr : Hid (Reads w w.heap.size 1 A bs.length (bs.map B))) (hl : bs.length ≤ 400) :
    Calls Try.prog 32 #[.slice A bs.length cap, .int .i64 n] w (ReadPost w (readL bs n)) := by
  have hR : readL bs n = readGo n bs 0 [] := by unfold readL; rw [if_neg (by omega)]
  rw [hR]
  clear hR
  obtain ⟨base, hbase⟩ : ∃ b, w.heap.size = b := ⟨_, rfl⟩
  have HB := hide hbase; clear hbase
  go_enter Try.func32, Try.ntmps32
  go_wp2_with fail
  go_loopw [7, 8] (fun v i wr => ∃ (k : Nat) (acc : List Bool), k ≤ bs.length ∧ i = .int .i64 k ∧ Hid (OwnT wr base v acc) ∧ Hid (acc.length = 7 * k) ∧ Hid (readGo n bs 0 [] = readGo n (bs.drop k) k acc) ∧ Hid (Below base w wr) ∧ base ≤ wr.heap.size) (fun _ i _ => bs.length - (intOf i).toNat)
  case atStart => exact ⟨0, [], Nat.zero_le _, rfl, own_nil _ _ _ _, rfl, rfl, Below.refl _ _, by rw [HB.out]; omega⟩
  case round =>
    obtain ⟨k, acc, hk, rfl, ho, ha, hg, hb, hbs⟩ := hrel
    by_cases hlt : k < bs.length
    · obtain ⟨wo, rfl⟩ : ∃ wo : World, wo = wr := ⟨_, rfl⟩
      go_wp2_with fail
      have hl0 : acc.length ≤ 2800 := by have := ha.out; omega
      go_loopw [7, 9] (fun v j wr => ∃ (q : Nat), q ≤ 7 ∧ j = .int .i64 q ∧ (∀ c, bs[k]? = some c → Hid (OwnT wr base v (acc ++ bitsK c.toNat q))) ∧ Hid (Below base w wr) ∧ base ≤ wr.heap.size) (fun _ j _ => 7 - (intOf j).toNat)
      case atStart => exact ⟨0, by omega, rfl, fun c _ => by show OwnT _ _ _ _; simpa [bitsK] using ho.out, hb, hbs⟩
      case round =>
        obtain ⟨q, hq, rfl, ho1, hb1, hbs1⟩ := hrel
        obtain ⟨ad, c, rfl, Hc, hc, c0, c1⟩ := (hr.out.below (by rw [HB.out]; exact hb1.out)).byte hlt
        have Ho1 := hide (ho1 c Hc.out).out
        clear ho1
        by_cases hq7 : q < 7
        · have hroom : Room (acc ++ bitsK c.toNat q).length 1 1 := room_of (by simp [bitsK]; omega) (by omega)
          go_wp2_with (at_builtin; refine wpList_push rfl _ _ rfl base bool_elem _ (acc ++ bitsK c.toNat q).length ((acc ++ bitsK c.toNat q).map T) rfl wr _ _ rfl Ho1.out rfl rfl hroom hbs1 ?_; intro v' w' ho' hg')
          go_roundw
          case rel =>
            rw [bit_form] at ho'
            refine ⟨q + 1, by omega, by go_num, fun c' hc' => ?_, hb1.out.grown hg'.by_ hbs1 (own_ge Ho1.out), Nat.le_trans hbs1 hg'.by_.size⟩
            have e : c' = c := by have := Hc.out; rw [this] at hc'; injection hc' with e; exact e.symm
            subst e
            exact (OwnT.push ho').cast (by rw [bitsK_succ, List.append_assoc])
          case measure => simp [intOf]; omega
        · have hq8 : q = 7 := by omega
          clear hq7
          subst hq8
          go_wp2_with fail
          · go_ret3
            exact ReadPost.of (hg.out.trans (readGo_bad Hc.out (by assumption) (by assumption))) (own_nil _ _ _ _) (by rw [HB.out]; exact hb1.out)
          · go_ret3
            exact ReadPost.of (hg.out.trans (readGo_end Hc.out (by assumption))) (by rw [HB.out]; exact Ho1.out) (by rw [HB.out]; exact hb1.out)
          · go_ret3
            exact ReadPost.of (hg.out.trans (readGo_end Hc.out (by assumption))) (by rw [HB.out]; exact Ho1.out) (by rw [HB.out]; exact hb1.out)
          · go_roundw
            case rel =>
              exact ⟨k + 1, _, by omega, by go_num, Ho1, by show _ = _; rw [List.length_append, ha.out]; simp [bitsK]; omega, hg.out.trans (readGo_on Hc.out (by omega) (by assumption)), hb1, hbs1⟩
            case measure => simp [intOf]; omega
    · go_wp2_with fail
      go_ret3
      exact ReadPost.of (hg.out.trans (readGo_nil (by omega))) (own_nil _ _ _ _) (by rw [HB.out]; exact hb.out)

set_option maxHeartbeats 400000 in
theorem refRead_arg (A : Option Addr) (l cap : Nat) (bs : List UInt8) (n : Int) (w : World) (h0 : n < 1 ∨ 64 < n) :
    Calls Try.prog 32 #[.slice A l cap, .int .i64 n] w (ReadPost w (readL bs n)) := by
  have hR : readL bs n = ([], 0, 1) := by unfold readL; rw [if_pos h0]
  rw [hR]
  clear hR
  rcases h0 with h0 | h0
  · go_enter Try.func32, Try.ntmps32
    go_wp2
    go_ret3
    exact ReadPost.of rfl (own_nil _ _ _ _) (Below.refl _ _)
  · by_cases h1 : n < 1
    · omega
    · go_enter Try.func32, Try.ntmps32
      go_wp2
      go_ret3
      exact ReadPost.of rfl (own_nil _ _ _ _) (Below.refl _ _)

theorem refRead_any (A : Option Addr) (cap : Nat) (bs : List UInt8) (n : Int) (w : World) (hr : Hid (Reads w w.heap.size 1 A bs.length (bs.map B))) (hl : bs.length ≤ 400) :
    Calls Try.prog 32 #[.slice A bs.length cap, .int .i64 n] w (ReadPost w (readL bs n)) := by
  by_cases h : n < 1 ∨ 64 < n
  · exact refRead_arg A bs.length cap bs n w h
  · exact refRead_in A cap bs n w (by omega) (by omega) hr hl
end Go.Proofs.Ytiaigkpnhmgphaa
