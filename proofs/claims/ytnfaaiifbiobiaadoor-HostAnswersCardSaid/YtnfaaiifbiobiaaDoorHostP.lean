/-
  HostMore: the walk.
-/
import Derived.Test.YtnfaaiifbiobiaaDoorHostO
namespace Go.Proofs.YtnfaaiifbiobiaaDoor
open Go.RowKit
set_option linter.unusedVariables false

theorem findH_shift (rs : List HR) (xm xn : List UInt8) : ∀ i, findH rs xm xn i = (findH rs xm xn 0).map (· + i) := by
  induction rs with
  | nil => intro i; rfl
  | cons r l ih =>
    intro i
    unfold findH
    split
    · simp
    · rw [ih (i + 1), ih (0 + 1), Option.map_map]
      congr 1
      funext x
      simp only [Function.comp_apply]
      omega
theorem findH_append (rs ms : List HR) (xm xn : List UInt8) : ∀ i, findH (rs ++ ms) xm xn i = match findH rs xm xn i with | some k => some k | none => findH ms xm xn (i + rs.length) := by
  induction rs with
  | nil => intro i; rfl
  | cons r l ih =>
    intro i
    show (if fitsH r xm xn then some i else findH (l ++ ms) xm xn (i + 1)) = match (if fitsH r xm xn then some i else findH l xm xn (i + 1)) with | some k => some k | none => findH ms xm xn (i + (r :: l).length)
    split
    · rfl
    · rw [ih (i + 1), List.length_cons, show i + 1 + l.length = i + (l.length + 1) from by omega]
/-- the second host's state goes with the first one's -/
def Goes (rs ms : List HR) (st1 st2 : HS) : Prop := ∃ qa qb, st1 = some (rs, qa) ∧ st2 = some (rs ++ ms, qb) ∧ qa.length = rs.length ∧ qb.take rs.length = qa
theorem getD_take (l : List Nat) {k n : Nat} (h : k < n) : (l.take n).getD k 0 = l.getD k 0 := by
  rw [List.getD_eq_getElem?_getD, List.getD_eq_getElem?_getD, List.getElem?_take, if_pos h]
theorem Goes.hit {rs ms : List HR} {st1 st2 : HS} (h : Goes rs ms st1 st2) {xm xn : List UInt8} {k : Nat} (hf : findH rs xm xn 0 = some k) (ts : List UInt8) (gs : List Nat) :
    outS st1 xm xn ts gs = outS st2 xm xn ts gs ∧ Goes rs ms (stepS st1 xm xn) (stepS st2 xm xn) ∧ askedS (stepS st1 xm xn) k = askedS (stepS st2 xm xn) k ∧ ruleS (stepS st1 xm xn) xm xn = some k ∧ ruleS (stepS st2 xm xn) xm xn = some k := by
  obtain ⟨qa, qb, rfl, rfl, hl, ht⟩ := h
  have hf2 : findH (rs ++ ms) xm xn 0 = some k := by rw [findH_append, hf]
  obtain ⟨_, hk, _⟩ := findH_some hf
  rw [Nat.zero_add] at hk
  have hrk : (rs ++ ms)[k]? = rs[k]? := List.getElem?_append_left hk
  have hq : qa.getD k 0 = qb.getD k 0 := by rw [← ht, getD_take _ hk]
  have hs1 : stepS (some (rs, qa)) xm xn = some (rs, qa.set k (qa.getD k 0 + 1)) := by simp only [stepS, hf]
  have hs2 : stepS (some (rs ++ ms, qb)) xm xn = some (rs ++ ms, qb.set k (qa.getD k 0 + 1)) := by simp only [stepS, hf2, hq]
  have htk : (qb.set k (qa.getD k 0 + 1)).take rs.length = qa.set k (qa.getD k 0 + 1) := by rw [List.take_set, ht]
  rw [hs1, hs2]
  refine ⟨?_, ⟨_, _, rfl, rfl, by rw [List.length_set]; exact hl, htk⟩, ?_, hf, hf2⟩
  · simp only [outS, hf, hf2, hrk, hq]
  · simp only [askedS]
    rw [if_neg (by omega), if_neg (by omega), Int.toNat_natCast, ← htk, getD_take _ hk]
theorem Goes.miss {rs ms : List HR} {st1 st2 : HS} (h : Goes rs ms st1 st2) {xm xn : List UInt8} (hf : findH rs xm xn 0 = none) :
    Goes rs ms (stepS st1 xm xn) (stepS st2 xm xn) ∧ ruleS (stepS st1 xm xn) xm xn = none ∧ (ruleS (stepS st2 xm xn) xm xn = none ∨ ∃ k, ruleS (stepS st2 xm xn) xm xn = some k ∧ rs.length ≤ k ∧ k < rs.length + ms.length) := by
  obtain ⟨qa, qb, rfl, rfl, hl, ht⟩ := h
  have hf2 : findH (rs ++ ms) xm xn 0 = findH ms xm xn rs.length := by rw [findH_append, hf]; simp
  have hs1 : stepS (some (rs, qa)) xm xn = some (rs, qa) := by simp only [stepS, hf]
  rw [hs1]
  cases hm : findH ms xm xn rs.length with
  | none =>
    rw [hm] at hf2
    have hs2 : stepS (some (rs ++ ms, qb)) xm xn = some (rs ++ ms, qb) := by simp only [stepS, hf2]
    rw [hs2]
    exact ⟨⟨_, _, rfl, rfl, hl, ht⟩, hf, .inl hf2⟩
  | some k =>
    rw [hm] at hf2
    obtain ⟨h1, h2, _⟩ := findH_some hm
    have hs2 : stepS (some (rs ++ ms, qb)) xm xn = some (rs ++ ms, qb.set k (qb.getD k 0 + 1)) := by simp only [stepS, hf2]
    rw [hs2]
    exact ⟨⟨_, _, rfl, rfl, hl, by rw [List.take_set_of_le h1]; exact ht⟩, hf, .inr ⟨k, hf2, h1, by omega⟩⟩
theorem new_cases (rs : List HR) (h : rs.length ≤ 30) : (newE rs = 0 ∧ newS rs = some (rs, List.replicate rs.length 0) ∧ rs.all rightH = true) ∨ (newE rs = 1 ∧ newS rs = none ∧ rs.all rightH = false) := by
  unfold newE newS
  have h30 : ¬ 30 < rs.length := by omega
  simp only [if_neg h30]
  cases hq : rs.all rightH with
  | true => exact .inl ⟨rfl, rfl, rfl⟩
  | false => exact .inr ⟨rfl, rfl, rfl⟩
theorem Goes.new (rs ms : List HR) : Goes rs ms (some (rs, List.replicate rs.length 0)) (some (rs ++ ms, List.replicate (rs ++ ms).length 0)) :=
  ⟨_, _, rfl, rfl, by simp, by rw [List.take_replicate, List.length_append]; congr 1; omega⟩

set_option maxRecDepth 100000 in
set_option maxHeartbeats 1600000 in
theorem more_any (A0 : Option Addr) (c0 n : Nat) (rs : List HR) (A3 : Option Addr) (c3 n3 : Nat) (ms : List HR) (A1 : Option Addr) (c1 m : Nat) (as_ : List AK) (w : World) (h0 : Hid (Reads w w.heap.size 4 A0 rs.length (rs.flatMap hrV))) (hn : Hid (rs.length = n)) (hf : Hid (Fair rs)) (h3 : Hid (Reads w w.heap.size 4 A3 ms.length (ms.flatMap hrV))) (hn3 : Hid (ms.length = n3)) (hf3 : Hid (Fair ms))
    (h1 : Hid (AsksOk w w.heap.size A1 as_)) (hm : Hid (as_.length = m)) (ht : Hid (LaidH w)) (hn15 : n ≤ 15) (hn315 : n3 ≤ 15) (hm40 : m ≤ 40) :
    Calls Tryd.prog 5 #[.slice A0 n c0, .slice A3 n3 c3, .slice A1 m c1] w fun e w' => e = .returned (.bool true) ∧ Hid (Below w.heap.size w w') := by
  have HA := hide (awakeH w ht)
  obtain ⟨B0, hB0⟩ : ∃ b, w.heap.size = b := ⟨_, rfl⟩
  have HB0 := hide hB0
  rw [hB0] at h0 h1 h3
  clear hB0 ht
  go_enter Tryd.func5, Tryd.ntmps5
  go_wp2_with fail
  refine HA.out.mono ?_; rintro e wa ⟨rfl, ha⟩
  go_upto_region 3 with fail
  obtain ⟨B1, hB1⟩ : ∃ b, wa.heap.size = b := ⟨_, rfl⟩
  have hBa : Below B0 w wa := by have := ha.out; rw [HB0.out] at this; exact this
  have hB01 : B0 ≤ B1 := by have := hBa.size; have := ha.out.size; have := HB0.out; omega
  have HNA := hide (new_all A0 c0 n rs wa ((h0.out.below hBa).more (by omega)) hn.out (by omega) hf)
  have HBA := hide hBa; have HB1 := hide hB1
  clear hBa hB1 HA ha
  go_wp2_with fail
  refine HNA.out.mono ?_; rintro e wb ⟨v1, rfl, hs1, hb1, hp1⟩
  rw [HB1.out] at hs1 hb1
  obtain ⟨E1, hE1⟩ : ∃ b, wb.heap.size = b := ⟨_, rfl⟩
  rw [hE1] at hs1
  have hBE1 : B1 ≤ E1 := by rw [← hE1, ← HB1.out]; have := hb1.out.size; have := HB1.out; omega
  have hBb : Below B0 w wb := HBA.out.trans (hb1.out.mono hB01)
  obtain ⟨wd, hwd⟩ : ∃ x, wb.alloc (.cells #[] 28) = x := ⟨_, rfl⟩
  have hbd : Below wb.heap.size wb wd := by rw [← hwd]; exact (Below.refl _ _).alloc (Nat.le_refl _) _
  have hhd : wd.heap[E1]? = some (.cells #[] 28 (0, 0)) := by rw [← hwd, ← hE1]; exact heap_alloc_new wb _
  have hownd : Hid (wd.ownsRow E1 28 4 (.slice (some ⟨E1, 0, none⟩) 0 0) 0 []) := ⟨by simp, .inr ⟨E1, 0, #[], rfl, Nat.le_refl _, hhd, Nat.le_refl _, by unfold maxLen; omega, by simp, by simp⟩⟩
  have hBd : Below B0 w wd := hBb.trans (hbd.mono (by omega))
  have hr0 : Hid (Reads wd B0 4 A0 n (rs.flatMap hrV)) := by have := h0.out.below hBd; rw [hn.out] at this; exact this
  have hr3 : Hid (Reads wd B0 4 A3 n3 (ms.flatMap hrV)) := by have := h3.out.below hBd; rw [hn3.out] at this; exact this
  have hone0 := hide (hrV_one rs); have hone3 := hide (hrV_one ms)
  have hroom0 : Room 0 n 48 := room_of (by omega) (by omega)
  have hroom3 : Room n n3 48 := room_of (by omega) (by omega)
  have hszd : E1 ≤ wd.heap.size := by have := hbd.size; omega
  have HWD := hide hwd; have HE1 := hide hE1; have HBD := hide hBd
  have HSD : Hid (Hst wd B1 E1 v1 (newS rs)) := hs1.out.below hbd
  clear hwd hbd hhd hBd hBb hE1 hs1 hb1 HNA HBA HB1 h0 h3
  go_upto_region 4 with fail
  go_wp2_with (first
    | (at_builtin; rw [HWD.out, HE1.out]; refine wpList_append_any rfl _ _ rfl E1 rule_elem (.slice (some ⟨E1, 0, none⟩) 0 0) 0 [] rfl hownd.out B0 A0 n c0 (rs.flatMap hrV) rfl hr0.out hone0.out hroom0 hszd ?_; intro v4 w4 ho4 hg4
       rw [Nat.zero_add, List.nil_append] at ho4
       have hb4 : Below E1 wd w4 := (Below.refl _ _).grown hg4.by_ hszd (own_ge hownd.out)
       have hr34 : Hid (Reads w4 B0 4 A3 n3 (ms.flatMap hrV)) := hr3.out.below (hb4.mono (by omega))
       have hsz4 : E1 ≤ w4.heap.size := by have := hg4.by_.size; omega
       have HB4 := hide hb4
       clear hb4 hg4
       obtain ⟨A4, c4, hv4, hc4, hm4⟩ := own_form ho4
       subst hv4
       have HO4 := hide ho4
       clear ho4 hc4 hm4)
    | (at_builtin; refine wpList_append_any rfl _ _ rfl E1 rule_elem (.slice A4 n c4) n (rs.flatMap hrV) rfl HO4.out B0 A3 n3 c3 (ms.flatMap hrV) rfl hr34.out hone3.out hroom3 hsz4 ?_; intro v5 w5 ho5 hg5
       obtain ⟨A5, c5, hv5, hc5, hm5⟩ := own_form ho5
       subst hv5
       have HO5 := hide ho5
       have HG5 := hide hg5
       clear ho5 hg5 hc5 hm5))
  have hg5 := HG5.out
  have ho5 := HO5.out
  have hb5 : Below E1 w4 w5 := (Below.refl _ _).grown hg5.by_ hsz4 (own_ge HO4.out)
  have hb45 : Below E1 wd w5 := HB4.out.trans hb5
  have hlen : (rs ++ ms).length = n + n3 := by rw [List.length_append, hn.out, hn3.out]
  have hr5 : Hid (Reads w5 w5.heap.size 4 A5 (rs ++ ms).length ((rs ++ ms).flatMap hrV)) := by
    show Reads _ _ _ _ _ _
    rw [List.flatMap_append, hlen]
    exact Reads.of_own ho5
  have HFA : Hid (Fair (rs ++ ms)) := by intro r hr; rcases List.mem_append.1 hr with h | h; exact hf.out r h; exact hf3.out r h
  have HS5 : Hid (Hst w5 B1 E1 v1 (newS rs)) := HSD.out.other (B2 := E1) (E2 := w5.heap.size + 1) (by
    show Only _ _ _
    exact ⟨hb45.os, hb45.tape, hb45.output, Nat.le_trans (Nat.le_refl _) (by have := hg5.by_.size; have := HB4.out.size; omega), fun k hk hnm => by
      by_cases hkE : k < E1
      · exact hb45.block k hkE
      · exfalso
        apply hnm
        rw [mem_BE]
        have := hg5.by_.size; have := HB4.out.size; omega⟩) (.inl (Nat.le_refl _))
  obtain ⟨B2, hB2⟩ : ∃ b, w5.heap.size = b := ⟨_, rfl⟩
  have hEB : E1 ≤ B2 := by have := hg5.by_.size; omega
  have HBW5 : Hid (Below B0 w w5) := HBD.out.trans (hb45.mono (by omega))
  have HNB := hide (new_all A5 c5 (n + n3) (rs ++ ms) w5 hr5 hlen (by omega) HFA)
  have HLEN := hide hlen
  have HB2 := hide hB2
  clear hg5 ho5 HG5 HO5 hr5 hb5 hb45 HB4 hr34 hr0 hr3 hownd HO4 HSD HBD HWD HE1 hone0 hone3 hroom0 hroom3 hf hf3 HFA hlen hB2
  go_wp2_with fail
  refine HNB.out.mono ?_; rintro e wc ⟨v2, rfl, hs2, hb2, hp2⟩
  rw [HB2.out] at hs2 hb2
  obtain ⟨E2, hE2⟩ : ∃ b, wc.heap.size = b := ⟨_, rfl⟩
  rw [hE2] at hs2
  have hE12 : B2 ≤ E2 := by have := hb2.out.size; have := HB2.out; omega
  have HS1 : Hid (Hst wc B1 E1 v1 (newS rs)) := by
    have h := hb2.out
    rw [← HB2.out] at h
    exact HS5.out.below h
  have HBC : Hid (Below B0 w wc) := HBW5.out.trans (hb2.out.mono (by omega))
  have HE2 := hide hE2
  have hrl : rs.length ≤ 30 := by have := hn.out; omega
  have hrl2 : (rs ++ ms).length ≤ 30 := by have := HLEN.out; omega
  rcases new_cases rs hrl with ⟨e1, s1, q1⟩ | ⟨e1, s1, q1⟩
  case inr =>
    have hv1 : v1 = .pointer none := by have := HS1.out; rw [s1] at this; exact this
    subst hv1
    rw [e1]
    clear hs2 HS1 HS5 hp1 hp2 HNB hrl hrl2 s1 e1 q1 hE2
    go_wp2_with fail
    go_ret
    exact ⟨rfl, by rw [HB0.out]; exact HBC.out⟩
  rcases new_cases (rs ++ ms) hrl2 with ⟨e2, s2, q2⟩ | ⟨e2, s2, q2⟩
  case inr =>
    have hv2 : v2 = .pointer none := by have := hs2.out; rw [s2] at this; exact this
    have hv1 : ∃ g, v1 = .pointer (some ⟨g, 0, none⟩) := by
      have := HS1.out
      rw [s1] at this
      obtain ⟨hb', _, _, _, h, _⟩ := this
      exact ⟨hb', h⟩
    obtain ⟨g, rfl⟩ := hv1
    subst hv2
    rw [e1, e2]
    clear hs2 HS1 HS5 hp1 hp2 HNB hrl hrl2 s1 e1 q1 s2 e2 q2 hE2
    go_wp2_with fail
    go_ret
    exact ⟨rfl, by rw [HB0.out]; exact HBC.out⟩
  rw [e1, e2]
  have HFW1 : Hid (Few (newS rs) 0) := newS_few rs
  have HFW2 : Hid (Few (newS (rs ++ ms)) 0) := newS_few (rs ++ ms)
  have HGO : Hid (Goes rs ms (newS rs) (newS (rs ++ ms))) := by show Goes _ _ _ _; rw [s1, s2]; exact Goes.new rs ms
  have hnl : rs.length = n := hn.out
  have HNL := hide hnl
  have HNL3 : Hid (ms.length = n3) := hn3.out
  clear hE2 HNB hb2 HBW5 HS5 hrl hrl2 e1 e2 q1 q2 s1 s2 hp1 hp2 HB2 HLEN hn hn3 hnl
  generalize newS rs = sa at *
  generalize newS (rs ++ ms) = sb at *
  go_wp2_with fail
  go_loopw [11, 12, 13, 14, 15, 16, 17, 18, 19, 20, 21] (fun i _ _ _ _ _ _ _ _ _ _ w1 => ∃ (j : Nat) (st1 st2 : HS), i = .int .i64 j ∧ j ≤ m ∧ Hid (Hst w1 B1 E1 v1 st1) ∧ Hid (Hst w1 B2 E2 v2 st2) ∧ Hid (Few st1 j) ∧ Hid (Few st2 j) ∧ Hid (Goes rs ms st1 st2) ∧ Hid (Below B0 w w1) ∧ E2 ≤ w1.heap.size) (fun i _ _ _ _ _ _ _ _ _ _ _ => m - (intOf i).toNat)
  case atStart => exact ⟨0, sa, sb, rfl, by omega, HS1, hs2, HFW1, HFW2, HGO, HBC, by rw [HE2.out]; omega⟩
  case round =>
    clear HS1 hs2 HFW1 HFW2 HBC HE2 HGO
    obtain ⟨j, st1, st2, rfl, hj, HS1, HS2, HFW1, HFW2, HGO, HBR, hE2⟩ := hrel
    by_cases hlt : j < m
    · obtain ⟨ad, a, rfl, ha, e0, e1, e2, e3, e4, hab, hr1, hr2, hgu⟩ := ask_at (h1.out.below HBR.out) (i := j) (by rw [hm.out]; exact hlt)
      by_cases ht20 : 20 < a.ts.length
      · go_wp2_with fail
        go_ret
        exact ⟨rfl, by rw [HB0.out]; exact HBR.out⟩
      · by_cases hg20 : 20 < a.gs.length
        · go_wp2_with fail
          go_ret
          exact ⟨rfl, by rw [HB0.out]; exact HBR.out⟩
        · have hTO := hide (to_any a.Ar a.cr a.ts wr (hr1.out.more (by omega)) (by omega))
          go_upto_region 12 with fail
          go_wp2_with fail
          refine hTO.out.mono ?_; rintro e w2 ⟨A2, c2, rfl, hr2', hlo, hb2⟩
          go_upto_region 13 with fail
          obtain ⟨b10, hb10⟩ : ∃ b, w2.heap.size = b := ⟨_, rfl⟩
          obtain ⟨w3, hw3⟩ : ∃ x, w2.alloc (.cells #[.slice none 0 0, .slice A2 a.ts.length c2] 47) = x := ⟨_, rfl⟩
          rw [hw3, hb10]
          have hb3 : Below w2.heap.size w2 w3 := by rw [← hw3]; exact (Below.refl _ _).alloc (Nat.le_refl _) _
          have hb23 : Below wr.heap.size wr w3 := hb2.out.trans (hb3.mono hb2.out.size)
          have hsg : w3.heap[b10]? = some (.cells #[.slice none 0 0, .slice A2 a.ts.length c2] 47 (0, 0)) := by rw [← hw3, ← hb10]; exact heap_alloc_new w2 _
          have hAT0 : AskAt w3 ad j a b10 A2 c2 := by
            have key : ∀ (p : Addr) (u : Value), p.block = ad.block → wr.cell? p = some u → w3.cell? p = some u := fun p u hp hc => (hb23.cell (by rw [hp]; have := hab.out; omega)).trans hc
            exact ⟨key _ _ (block_of_add _ _) e0, key ⟨_, _, none⟩ _ (block_of_add _ _) e1, key ⟨_, _, none⟩ _ (block_of_add _ _) e2, key ⟨_, _, none⟩ _ (block_of_add _ _) e4, hsg⟩
          have hbE : E2 ≤ b10 := by have := hb2.out.size; omega
          have hA3 : Hid (Hst w3 B1 E1 v1 st1) := HS1.out.below hb23
          have hB3 : Hid (Hst w3 B2 E2 v2 st2) := HS2.out.below hb23
          have hw3s : E2 ≤ w3.heap.size := by have := hb23.size; omega
          have hrg : Reads w3 B0 1 a.Ag a.gs.length (a.gs.map U) := hr2.out.below (hb23.mono (by omega))
          have hrt : Reads w3 w3.heap.size 1 A2 a.ts.length (a.ts.map B) := (hr2'.out.below hb3).more hb3.size
          have hloE : ∀ ad, A2 = some ad → E2 ≤ ad.block := fun ad e => by have := hlo.out ad e; omega
          have HBW3 := hide (HBR.out.trans (hb23.mono (by omega)))
          have HT := hide hAT0
          have hab' := hab.out
          obtain ⟨q, hq⟩ : ∃ q, (outS st1 a.m a.n a.ts a.gs).isSome = q := ⟨_, rfl⟩
          obtain ⟨ol, hol⟩ : ∃ ol, outL (outS st1 a.m a.n a.ts a.gs) = ol := ⟨_, rfl⟩
          obtain ⟨st', hst'⟩ : ∃ s, stepS st1 a.m a.n = s := ⟨_, rfl⟩
          obtain ⟨p, hp⟩ : ∃ q, (outS st2 a.m a.n a.ts a.gs).isSome = q := ⟨_, rfl⟩
          obtain ⟨pl, hpl⟩ : ∃ ol, outL (outS st2 a.m a.n a.ts a.gs) = ol := ⟨_, rfl⟩
          obtain ⟨su', hsu'⟩ : ∃ s, stepS st2 a.m a.n = s := ⟨_, rfl⟩
          have holl : ol.length ≤ 20 := by rw [← hol]; have := outL_len st1 a.m a.n a.ts a.gs; omega
          have hpll : pl.length ≤ 20 := by rw [← hpl]; have := outL_len st2 a.m a.n a.ts a.gs; omega
          have HFW' : Hid (Few st' (j + 1)) := by show Few _ _; rw [← hst']; exact stepS_few HFW1.out _ _
          have HFU' : Hid (Few su' (j + 1)) := by show Few _ _; rw [← hsu']; exact stepS_few HFW2.out _ _
          have HFW9 : Hid (Few st1 999) := by intro rs' qs' e q' hq'; have := HFW1.out rs' qs' e q' hq'; omega
          have HFU9 : Hid (Few st2 999) := by intro rs' qs' e q' hq'; have := HFW2.out rs' qs' e q' hq'; omega
          have HHIT : Hid (∀ k, findH rs a.m a.n 0 = some k → q = p ∧ ol = pl ∧ Goes rs ms st' su' ∧ askedS st' k = askedS su' k ∧ ruleS st' a.m a.n = some k ∧ ruleS su' a.m a.n = some k) := by
            intro k hk
            obtain ⟨g1, g2, g3, g4, g5⟩ := HGO.out.hit hk a.ts a.gs
            rw [← hq, ← hp, ← hol, ← hpl, ← hst', ← hsu', g1]
            exact ⟨rfl, rfl, g2, g3, g4, g5⟩
          have HMISS : Hid (findH rs a.m a.n 0 = none → Goes rs ms st' su' ∧ ruleS st' a.m a.n = none ∧ (ruleS su' a.m a.n = none ∨ ∃ k, ruleS su' a.m a.n = some k ∧ n ≤ k ∧ k < n + n3)) := by
            intro hk
            obtain ⟨g1, g2, g3⟩ := HGO.out.miss hk
            rw [← hst', ← hsu', ← HNL.out, ← HNL3.out]
            exact ⟨g1, g2, g3⟩
          have HAT1 : Hid (∀ W, AOnly B1 E1 w3 W → AskAt W ad j a b10 A2 c2) := fun W h => HT.out.only h (fun hm => by have := mem_BE.1 hm; omega) (fun hm => by have := mem_BE.1 hm; omega)
          have HANS1 : Hid (∀ W, grew w3 W → Calls Tryd.prog 10 #[v1, .agg #[.string ⟨a.m.toArray⟩, .string ⟨a.n.toArray⟩, .int .i64 a.sg], .agg #[.slice none 0 0, .slice A2 a.ts.length c2], .slice a.Ag a.gs.length a.cg] W
              fun e w' => ∃ A c, e = .returned (.tuple #[.slice A ol.length c, .bool q]) ∧ Hid (Reads w' w'.heap.size 1 A ol.length (ol.map U)) ∧ Hid (∀ ad, 0 < ol.length → A = some ad → W.heap.size ≤ ad.block) ∧ Hid (AOnly B1 E1 W w') ∧ Hid (Hst w' B1 E1 v1 st')) := by
            intro W hW
            have h := answer_all B1 E1 v1 st1 a.m a.n a.sg (.slice none 0 0) A2 c2 a.ts a.Ag a.cg a.gs W (hA3.out.below hW) (fun W' h' => ((hrt.below hW).more hW.size).aonly2 h' (fun ad e => by have := hloE ad e; omega)) (fun W' h' => (hrg.below (hW.mono (by omega))).aonly h' hB01 (by have := hW.size; omega)) (by omega) (by omega) hgu HFW9
            unfold AnsP at h
            rw [hq, hol, hst'] at h
            exact h
          have HANS2 : Hid (∀ W, Below B0 w3 W → w3.heap.size ≤ W.heap.size → Hst W B2 E2 v2 st2 → AskAt W ad j a b10 A2 c2 → Reads W W.heap.size 1 A2 a.ts.length (a.ts.map B) → Calls Tryd.prog 10 #[v2, .agg #[.string ⟨a.m.toArray⟩, .string ⟨a.n.toArray⟩, .int .i64 a.sg], .agg #[.slice none 0 0, .slice A2 a.ts.length c2], .slice a.Ag a.gs.length a.cg] W
              fun e w' => ∃ A c, e = .returned (.tuple #[.slice A pl.length c, .bool p]) ∧ Hid (Reads w' w'.heap.size 1 A pl.length (pl.map U)) ∧ Hid (∀ ad, 0 < pl.length → A = some ad → W.heap.size ≤ ad.block) ∧ Hid (AOnly B2 E2 W w') ∧ Hid (Hst w' B2 E2 v2 su')) := by
            intro W hW hWs hH hAt hR
            have h := answer_all B2 E2 v2 st2 a.m a.n a.sg (.slice none 0 0) A2 c2 a.ts a.Ag a.cg a.gs W hH (fun W' h' => hR.aonly2 h' (fun ad e => by have := hloE ad e; omega)) (fun W' h' => (hrg.below hW).aonly h' (by omega) (by omega)) (by omega) (by omega) hgu HFU9
            unfold AnsP at h
            rw [hp, hpl, hsu'] at h
            exact h
          have HRT := hide hrt; have HLOE := hide hloE
          clear hw3 hb10 hb3 hb23 hsg hAT0 hrg hrt hq hol hst' hp hpl hsu' HS1 HS2 HFW1 HFW2 HFW9 HFU9 HGO e0 e1 e2 e3 e4 hr1 hr2 hr2' hlo hloE hb2 hTO HBR hE2 hab
          --ASK base=96 host=7 asks=2 idx=11 sig=12 tup=95 o1=13 o2=14 w=w3 B=B1 E=E1 v=v1 EF=E2 HAT=HAT1 HANS=HANS1 NO=HO1 NS=HSA NB=HAO tag=x WW=W2
          refine wp_region_factsC grew_ext (AOnly.ext B1 E1) (fun _ _ h => AOnly.of_below h) 12 (factsOf [fun yy _ => yy = v1,
            fun yy _ => yy = .slice (some ad) m c1,
            fun yy _ => yy = .int .i64 j,
            fun yy _ => yy = .pointer (some (ad.add (j * 5))),
            fun yy _ => yy = .pointer (some (ad.add (j * 5))),
            fun yy _ => yy = .agg #[.string ⟨a.m.toArray⟩, .string ⟨a.n.toArray⟩, .int .i64 a.sg],
            fun yy _ => yy = .agg #[.slice none 0 0, .slice A2 a.ts.length c2],
            fun yy _ => yy = .slice (some ad) m c1,
            fun yy _ => yy = .int .i64 j,
            fun yy _ => yy = .pointer (some (ad.add (j * 5))),
            fun yy _ => yy = .pointer (some ⟨(ad.add (j * 5)).block, (ad.add (j * 5)).off + 4, none⟩),
            fun yy _ => yy = .slice a.Ag a.gs.length a.cg,
            fun yy W => (∃ u, yy = .tuple #[u, .bool q] ∧ OutF E2 ol u W) ∧ Hst W B1 E1 v1 st',
            fun yy W => ∃ u, yy = .tuple #[u, .bool q] ∧ OutF E2 ol u W,
            fun yy W => OutF E2 ol yy W,
            fun yy _ => yy = .bool q,
            fun yy W => OutF E2 ol yy W,
            fun yy _ => yy = .bool q]) (by kernel_rfl) (by kernel_rfl) (by decide) ?_ ?_
          · refine ⟨?_, ?_, ?_, ?_, ?_, ?_, ?_, ?_, ?_, ?_, ?_, ?_, ?_, ?_, ?_, ?_, ?_, ?_, trivial⟩
            · refine ObC.plain (by decide) rfl fun ρ W hk => ?_
              exact OpOut.move (.tmp 7) rfl ⟨Below.refl _ _, hk.old 7 (by decide)⟩
            · refine ObC.plain (by decide) rfl fun ρ W hk => ?_
              exact OpOut.move (.tmp 2) rfl ⟨Below.refl _ _, hk.old 2 (by decide)⟩
            · refine ObC.plain (by decide) rfl fun ρ W hk => ?_
              exact OpOut.move (.tmp 11) rfl ⟨Below.refl _ _, hk.old 11 (by decide)⟩
            · refine ObC.plain (by decide) rfl fun ρ W hk => ?_
              have h1 := (hk.fact 1 97 (by decide) rfl).pure
              have h2 := (hk.fact 2 98 (by decide) rfl).pure
              exact OpOut.indexAddr (x := .tmp 97) (y := .tmp 98) rfl h1 h2 (by go_simp; try omega) ⟨Below.refl _ _, rfl⟩
            · refine ObC.plain (by decide) rfl fun ρ W hk => ?_
              have h3 := (hk.fact 3 99 (by decide) rfl).pure
              exact OpOut.fieldAddr (x := .tmp 99) rfl h3 (by go_simp) ⟨Below.refl _ _, rfl⟩
            · refine ObC.plain (by decide) rfl fun ρ W hk => ?_
              have h4 := (hk.fact 4 100 (by decide) rfl).pure
              have hc := HAT1.out W hk.below
              have k0 := hc.f0
              have k1 := hc.f1
              have k2 := hc.f2
              exact OpOut.load (x := .tmp 100) rfl h4 (by go_simp) ⟨Below.refl _ _, rfl⟩
            · refine ObC.plain (by decide) rfl fun ρ W hk => ?_
              have o10 : ρ (.tmp 12) = .pointer (some ⟨b10, 0, none⟩) := hk.old 12 (by decide)
              have hc := HAT1.out W hk.below
              have k0 := hc.s0
              have k1 := hc.s1
              exact OpOut.load (x := .tmp 12) rfl o10 (by go_simp) ⟨Below.refl _ _, rfl⟩
            · refine ObC.plain (by decide) rfl fun ρ W hk => ?_
              exact OpOut.move (.tmp 2) rfl ⟨Below.refl _ _, hk.old 2 (by decide)⟩
            · refine ObC.plain (by decide) rfl fun ρ W hk => ?_
              exact OpOut.move (.tmp 11) rfl ⟨Below.refl _ _, hk.old 11 (by decide)⟩
            · refine ObC.plain (by decide) rfl fun ρ W hk => ?_
              have h1 := (hk.fact 7 103 (by decide) rfl).pure
              have h2 := (hk.fact 8 104 (by decide) rfl).pure
              exact OpOut.indexAddr (x := .tmp 103) (y := .tmp 104) rfl h1 h2 (by go_simp; try omega) ⟨Below.refl _ _, rfl⟩
            · refine ObC.plain (by decide) rfl fun ρ W hk => ?_
              have h9 := (hk.fact 9 105 (by decide) rfl).pure
              exact OpOut.fieldAddr (x := .tmp 105) rfl h9 (by go_simp) ⟨Below.refl _ _, rfl⟩
            · refine ObC.plain (by decide) rfl fun ρ W hk => ?_
              have h10 := (hk.fact 10 106 (by decide) rfl).pure
              have hc := HAT1.out W hk.below
              have k4 := hc.f4
              exact OpOut.load (x := .tmp 106) rfl h10 (by go_simp) ⟨Below.refl _ _, rfl⟩
            · refine ObC.writes rfl fun ρ W hk hw => ?_
              have h0 := (hk.fact 0 96 (by decide) rfl).pure
              have h5 := (hk.fact 5 101 (by decide) rfl).pure
              have h6 := (hk.fact 6 102 (by decide) rfl).pure
              have h11 := (hk.fact 11 107 (by decide) rfl).pure
              refine OpOut.fn (args := #[v1, .agg #[.string ⟨a.m.toArray⟩, .string ⟨a.n.toArray⟩, .int .i64 a.sg], .agg #[.slice none 0 0, .slice A2 a.ts.length c2], .slice a.Ag a.gs.length a.cg]) rfl (hk.func _) (by simp [h0, h5, h6, h11]) Tryd.func10 (by kernel_rfl) rfl ?_
              refine (HANS1.out W hw).mono ?_; rintro ee w5 ⟨A, c, rfl, g1, g2, g3, g4⟩
              exact ⟨_, rfl, g3.out, ⟨_, rfl, A, c, rfl, g1.out, fun ad' p1 p2 => by have := g2.out ad' p1 p2; have := hw.size; omega⟩, g4.out⟩
            · refine ObC.plain (by decide) rfl fun ρ W hk => ?_
              obtain ⟨wq, hq, ⟨u, e12, ho⟩, _⟩ := hk.fact 12 108 (by decide) rfl
              exact OpOut.move (.tmp 108) rfl ⟨Below.refl _ _, u, e12, ho.aonly hq (by omega)⟩
            · refine ObC.plain (by decide) rfl fun ρ W hk => ?_
              obtain ⟨wq, hq, u, e13, ho⟩ := hk.fact 13 95 (by decide) rfl
              exact OpOut.extract (x := .tmp 95) rfl e13 (by go_simp; try rfl) ⟨Below.refl _ _, ho.aonly hq (by omega)⟩
            · refine ObC.plain (by decide) rfl fun ρ W hk => ?_
              obtain ⟨wq, hq, u, e13, ho⟩ := hk.fact 13 95 (by decide) rfl
              exact OpOut.extract (x := .tmp 95) rfl e13 (by go_simp; try rfl) ⟨Below.refl _ _, rfl⟩
            · refine ObC.plain (by decide) rfl fun ρ W hk => ?_
              obtain ⟨wq, hq, ho⟩ := hk.fact 14 109 (by decide) rfl
              exact OpOut.assign (.tmp 109) rfl ⟨Below.refl _ _, OutF.aonly ho hq (by omega)⟩
            · refine ObC.plain (by decide) rfl fun ρ W hk => ?_
              have h15 := (hk.fact 15 110 (by decide) rfl).pure
              exact OpOut.assign (.tmp 110) rfl ⟨Below.refl _ _, h15⟩
          · intro vs W2 hb hf hcf
            obtain ⟨wq, hq, ho⟩ := hf 16 (by decide)
            have hout : OutF E2 ol (vs 16) W2 := OutF.aonly ho hq (by omega)
            have e17 := (hf 17 (by decide)).pure
            obtain ⟨wp, hp, _, hst⟩ := hcf
            have hst2 := hst.below hp
            have HO1 := hide hout; have HSA := hide hst2; have HAO := hide hb
            clear hf ho hq hout hst hst2 hp hb
            simp only [fillL]
            rw [e17]
            generalize vs 0 = vx0, vs 1 = vx1, vs 2 = vx2, vs 3 = vx3, vs 4 = vx4, vs 5 = vx5, vs 6 = vx6, vs 7 = vx7, vs 8 = vx8, vs 9 = vx9, vs 10 = vx10, vs 11 = vx11, vs 12 = vx12, vs 13 = vx13, vs 14 = vx14, vs 15 = vx15, vs 16 = vx16 at *
            clear e17
            go_frame
          --ENDASK
            go_upto_region 14 with fail
            have HB4 : Hid (Hst W2 B2 E2 v2 st2) := hB3.out.other HAO.out (.inr (by omega))
            have HT2 := hide (HAT1.out W2 HAO.out)
            have HRT2 := hide (HRT.out.aonly2 HAO.out (fun ad e => by have := HLOE.out ad e; omega))
            have HBW2 := hide (HAO.out.below hB01 (by omega))
            have hs2 := HAO.out.size
            have HAT2 : Hid (∀ W, AOnly B2 E2 W2 W → AskAt W ad j a b10 A2 c2) := fun W h => HT2.out.only h (fun hm => by have := mem_BE.1 hm; omega) (fun hm => by have := mem_BE.1 hm; omega)
            have HANS3 : Hid (∀ W, grew W2 W → Calls Tryd.prog 10 #[v2, .agg #[.string ⟨a.m.toArray⟩, .string ⟨a.n.toArray⟩, .int .i64 a.sg], .agg #[.slice none 0 0, .slice A2 a.ts.length c2], .slice a.Ag a.gs.length a.cg] W
              fun e w' => ∃ A c, e = .returned (.tuple #[.slice A pl.length c, .bool p]) ∧ Hid (Reads w' w'.heap.size 1 A pl.length (pl.map U)) ∧ Hid (∀ ad, 0 < pl.length → A = some ad → W.heap.size ≤ ad.block) ∧ Hid (AOnly B2 E2 W w') ∧ Hid (Hst w' B2 E2 v2 su')) :=
              fun W hW => HANS2.out W (HBW2.out.trans (hW.mono (by omega))) (by have := hW.size; omega) (HB4.out.below hW) (HT2.out.only (S := []) (Only.of_below hW) (by simp) (by simp)) ((HRT2.out.below hW).more hW.size)
            clear HANS1 HANS2 HAT1 HT hA3 hB3 HRT
            --ASK base=112 host=9 asks=2 idx=11 sig=12 tup=111 o1=15 o2=16 w=W2 B=B2 E=E2 v=v2 EF=E2 HAT=HAT2 HANS=HANS3 NO=HO2 NS=HSB NB=HAO2 tag=y WW=W4 OL=pl Q=p ST=su'
            refine wp_region_factsC grew_ext (AOnly.ext B2 E2) (fun _ _ h => AOnly.of_below h) 12 (factsOf [fun yy _ => yy = v2,
              fun yy _ => yy = .slice (some ad) m c1,
              fun yy _ => yy = .int .i64 j,
              fun yy _ => yy = .pointer (some (ad.add (j * 5))),
              fun yy _ => yy = .pointer (some (ad.add (j * 5))),
              fun yy _ => yy = .agg #[.string ⟨a.m.toArray⟩, .string ⟨a.n.toArray⟩, .int .i64 a.sg],
              fun yy _ => yy = .agg #[.slice none 0 0, .slice A2 a.ts.length c2],
              fun yy _ => yy = .slice (some ad) m c1,
              fun yy _ => yy = .int .i64 j,
              fun yy _ => yy = .pointer (some (ad.add (j * 5))),
              fun yy _ => yy = .pointer (some ⟨(ad.add (j * 5)).block, (ad.add (j * 5)).off + 4, none⟩),
              fun yy _ => yy = .slice a.Ag a.gs.length a.cg,
              fun yy W => (∃ u, yy = .tuple #[u, .bool p] ∧ OutF E2 pl u W) ∧ Hst W B2 E2 v2 su',
              fun yy W => ∃ u, yy = .tuple #[u, .bool p] ∧ OutF E2 pl u W,
              fun yy W => OutF E2 pl yy W,
              fun yy _ => yy = .bool p,
              fun yy W => OutF E2 pl yy W,
              fun yy _ => yy = .bool p]) (by kernel_rfl) (by kernel_rfl) (by decide) ?_ ?_
            · refine ⟨?_, ?_, ?_, ?_, ?_, ?_, ?_, ?_, ?_, ?_, ?_, ?_, ?_, ?_, ?_, ?_, ?_, ?_, trivial⟩
              · refine ObC.plain (by decide) rfl fun ρ W hk => ?_
                exact OpOut.move (.tmp 9) rfl ⟨Below.refl _ _, hk.old 9 (by decide)⟩
              · refine ObC.plain (by decide) rfl fun ρ W hk => ?_
                exact OpOut.move (.tmp 2) rfl ⟨Below.refl _ _, hk.old 2 (by decide)⟩
              · refine ObC.plain (by decide) rfl fun ρ W hk => ?_
                exact OpOut.move (.tmp 11) rfl ⟨Below.refl _ _, hk.old 11 (by decide)⟩
              · refine ObC.plain (by decide) rfl fun ρ W hk => ?_
                have h1 := (hk.fact 1 113 (by decide) rfl).pure
                have h2 := (hk.fact 2 114 (by decide) rfl).pure
                exact OpOut.indexAddr (x := .tmp 113) (y := .tmp 114) rfl h1 h2 (by go_simp; try omega) ⟨Below.refl _ _, rfl⟩
              · refine ObC.plain (by decide) rfl fun ρ W hk => ?_
                have h3 := (hk.fact 3 115 (by decide) rfl).pure
                exact OpOut.fieldAddr (x := .tmp 115) rfl h3 (by go_simp) ⟨Below.refl _ _, rfl⟩
              · refine ObC.plain (by decide) rfl fun ρ W hk => ?_
                have h4 := (hk.fact 4 116 (by decide) rfl).pure
                have hc := HAT2.out W hk.below
                have k0 := hc.f0
                have k1 := hc.f1
                have k2 := hc.f2
                exact OpOut.load (x := .tmp 116) rfl h4 (by go_simp) ⟨Below.refl _ _, rfl⟩
              · refine ObC.plain (by decide) rfl fun ρ W hk => ?_
                have o10 : ρ (.tmp 12) = .pointer (some ⟨b10, 0, none⟩) := hk.old 12 (by decide)
                have hc := HAT2.out W hk.below
                have k0 := hc.s0
                have k1 := hc.s1
                exact OpOut.load (x := .tmp 12) rfl o10 (by go_simp) ⟨Below.refl _ _, rfl⟩
              · refine ObC.plain (by decide) rfl fun ρ W hk => ?_
                exact OpOut.move (.tmp 2) rfl ⟨Below.refl _ _, hk.old 2 (by decide)⟩
              · refine ObC.plain (by decide) rfl fun ρ W hk => ?_
                exact OpOut.move (.tmp 11) rfl ⟨Below.refl _ _, hk.old 11 (by decide)⟩
              · refine ObC.plain (by decide) rfl fun ρ W hk => ?_
                have h1 := (hk.fact 7 119 (by decide) rfl).pure
                have h2 := (hk.fact 8 120 (by decide) rfl).pure
                exact OpOut.indexAddr (x := .tmp 119) (y := .tmp 120) rfl h1 h2 (by go_simp; try omega) ⟨Below.refl _ _, rfl⟩
              · refine ObC.plain (by decide) rfl fun ρ W hk => ?_
                have h9 := (hk.fact 9 121 (by decide) rfl).pure
                exact OpOut.fieldAddr (x := .tmp 121) rfl h9 (by go_simp) ⟨Below.refl _ _, rfl⟩
              · refine ObC.plain (by decide) rfl fun ρ W hk => ?_
                have h10 := (hk.fact 10 122 (by decide) rfl).pure
                have hc := HAT2.out W hk.below
                have k4 := hc.f4
                exact OpOut.load (x := .tmp 122) rfl h10 (by go_simp) ⟨Below.refl _ _, rfl⟩
              · refine ObC.writes rfl fun ρ W hk hw => ?_
                have h0 := (hk.fact 0 112 (by decide) rfl).pure
                have h5 := (hk.fact 5 117 (by decide) rfl).pure
                have h6 := (hk.fact 6 118 (by decide) rfl).pure
                have h11 := (hk.fact 11 123 (by decide) rfl).pure
                refine OpOut.fn (args := #[v2, .agg #[.string ⟨a.m.toArray⟩, .string ⟨a.n.toArray⟩, .int .i64 a.sg], .agg #[.slice none 0 0, .slice A2 a.ts.length c2], .slice a.Ag a.gs.length a.cg]) rfl (hk.func _) (by simp [h0, h5, h6, h11]) Tryd.func10 (by kernel_rfl) rfl ?_
                refine (HANS3.out W hw).mono ?_; rintro ee w5 ⟨A, c, rfl, g1, g2, g3, g4⟩
                exact ⟨_, rfl, g3.out, ⟨_, rfl, A, c, rfl, g1.out, fun ad' p1 p2 => by have := g2.out ad' p1 p2; have := hw.size; omega⟩, g4.out⟩
              · refine ObC.plain (by decide) rfl fun ρ W hk => ?_
                obtain ⟨wq, hq, ⟨u, e12, ho⟩, _⟩ := hk.fact 12 124 (by decide) rfl
                exact OpOut.move (.tmp 124) rfl ⟨Below.refl _ _, u, e12, ho.aonly hq (by omega)⟩
              · refine ObC.plain (by decide) rfl fun ρ W hk => ?_
                obtain ⟨wq, hq, u, e13, ho⟩ := hk.fact 13 111 (by decide) rfl
                exact OpOut.extract (x := .tmp 111) rfl e13 (by go_simp; try rfl) ⟨Below.refl _ _, ho.aonly hq (by omega)⟩
              · refine ObC.plain (by decide) rfl fun ρ W hk => ?_
                obtain ⟨wq, hq, u, e13, ho⟩ := hk.fact 13 111 (by decide) rfl
                exact OpOut.extract (x := .tmp 111) rfl e13 (by go_simp; try rfl) ⟨Below.refl _ _, rfl⟩
              · refine ObC.plain (by decide) rfl fun ρ W hk => ?_
                obtain ⟨wq, hq, ho⟩ := hk.fact 14 125 (by decide) rfl
                exact OpOut.assign (.tmp 125) rfl ⟨Below.refl _ _, OutF.aonly ho hq (by omega)⟩
              · refine ObC.plain (by decide) rfl fun ρ W hk => ?_
                have h15 := (hk.fact 15 126 (by decide) rfl).pure
                exact OpOut.assign (.tmp 126) rfl ⟨Below.refl _ _, h15⟩
            · intro vs W4 hb hf hcf
              obtain ⟨wq, hq, ho⟩ := hf 16 (by decide)
              have hout : OutF E2 pl (vs 16) W4 := OutF.aonly ho hq (by omega)
              have e17 := (hf 17 (by decide)).pure
              obtain ⟨wp, hp, _, hst⟩ := hcf
              have hst2 := hst.below hp
              have HO2 := hide hout; have HSB := hide hst2; have HAO2 := hide hb
              clear hf ho hq hout hst hst2 hp hb
              simp only [fillL]
              rw [e17]
              generalize vs 0 = vy0, vs 1 = vy1, vs 2 = vy2, vs 3 = vy3, vs 4 = vy4, vs 5 = vy5, vs 6 = vy6, vs 7 = vy7, vs 8 = vy8, vs 9 = vy9, vs 10 = vy10, vs 11 = vy11, vs 12 = vy12, vs 13 = vy13, vs 14 = vy14, vs 15 = vy15, vs 16 = vy16 at *
              clear e17
              go_frame
            --ENDASK
              have hfin : Hid (Below B0 w W4) := HBW3.out.trans (HBW2.out.trans (HAO2.out.below (by omega) (by omega)))
              have HSA4 : Hid (Hst W4 B1 E1 v1 st') := HSA.out.other HAO2.out (.inl (by omega))
              have hs4 : E2 ≤ W4.heap.size := by have := HAO2.out.size; omega
              have HT4 := hide (HAT2.out W4 HAO2.out)
              have HO14 := hide (HO1.out.aonly HAO2.out (Nat.le_refl _))
              have HRA := hide (rule_all B1 E1 v1 st' a.m a.n a.sg W4 HSA4)
              have HRB := hide (fun W (h : Below W4.heap.size W4 W) => rule_all B2 E2 v2 su' a.m a.n a.sg W (HSB.out.below h))
              have f0 := HT4.out.f0
              have f1 := HT4.out.f1
              have f2 := HT4.out.f2
              clear HO1 HAO HAO2 HSA HB4 HT2 HRT2 HBW2 hs2 HAT2 HANS3 HBW3 HLOE h1 ha hgu
              cases hfk : findH rs a.m a.n 0 with
              | none =>
                obtain ⟨g1, g2, g3⟩ := HMISS.out hfk
                rw [g2] at HRA
                clear HHIT HMISS hfk
                rcases g3 with g3 | ⟨k, g3, hk1, hk2⟩
                · rw [g3] at HRB
                  clear g2 g3
                  go_wp2_with fail
                  refine HRA.out.mono ?_; rintro e w5 ⟨rfl, h5⟩
                  have f0' := (HT4.out.only (S := []) (Only.of_below h5.out) (by simp) (by simp)).f0
                  have f1' := (HT4.out.only (S := []) (Only.of_below h5.out) (by simp) (by simp)).f1
                  have f2' := (HT4.out.only (S := []) (Only.of_below h5.out) (by simp) (by simp)).f2
                  clear f0 f1 f2
                  simp only [Option.isSome, Option.getD]
                  go_upto_region 16 with fail
                  go_wp2_with fail
                  refine (HRB.out w5 h5.out).mono ?_; rintro e w6 ⟨rfl, h6⟩
                  simp only [Option.isSome, Option.getD]
                  have h56 := h5.out.trans (h6.out.mono h5.out.size)
                  clear f0' f1' f2'
                  go_wp2_with fail
                  go_roundw
                  case rel => exact ⟨j + 1, st', su', by go_num, by omega, HSA4.out.below h56, HSB.out.below h56, HFW', HFU', g1, hfin.out.trans (h56.mono (by omega)), by have := h56.size; omega⟩
                  case measure => simp [intOf] <;> omega
                · rw [g3] at HRB
                  clear g2 g3
                  go_wp2_with fail
                  refine HRA.out.mono ?_; rintro e w5 ⟨rfl, h5⟩
                  have f0' := (HT4.out.only (S := []) (Only.of_below h5.out) (by simp) (by simp)).f0
                  have f1' := (HT4.out.only (S := []) (Only.of_below h5.out) (by simp) (by simp)).f1
                  have f2' := (HT4.out.only (S := []) (Only.of_below h5.out) (by simp) (by simp)).f2
                  clear f0 f1 f2
                  simp only [Option.isSome, Option.getD]
                  go_upto_region 16 with fail
                  go_wp2_with fail
                  refine (HRB.out w5 h5.out).mono ?_; rintro e w6 ⟨rfl, h6⟩
                  simp only [Option.isSome, Option.getD]
                  have h56 := h5.out.trans (h6.out.mono h5.out.size)
                  clear f0' f1' f2'
                  have hkn : ¬ (k : Int) < (n : Int) := by omega
                  go_wp2_with fail
                  go_roundw
                  case rel => exact ⟨j + 1, st', su', by go_num, by omega, HSA4.out.below h56, HSB.out.below h56, HFW', HFU', g1, hfin.out.trans (h56.mono (by omega)), by have := h56.size; omega⟩
                  case measure => simp [intOf] <;> omega
              | some k =>
                obtain ⟨k1, k2, g1, g4, g5, g6⟩ := HHIT.out k hfk
                have hkn : k ≤ 1000 := by
                  have hnl := HNL.out
                  obtain ⟨_, h2, _⟩ := findH_some hfk
                  omega
                rw [g5] at HRA
                rw [g6] at HRB
                subst k1 k2
                have HQA := hide (fun W (h : Below W4.heap.size W4 W) => asked_all B1 E1 v1 st' k W (HSA4.out.below h))
                have HQB := hide (fun W (h : Below W4.heap.size W4 W) => asked_all B2 E2 v2 su' k W (HSB.out.below h))
                rw [g4] at HQA
                clear HHIT HMISS hfk g4 g5 g6
                generalize askedS su' k = qk at *
                have HGO := hide g1
                clear g1
                obtain ⟨P1, d1, rfl, p1, _⟩ := HO14.out
                obtain ⟨P2, d2, rfl, p2, _⟩ := HO2.out
                have HP1 := hide p1; have HP2 := hide p2
                clear p1 p2 HO14 HO2
                have hqq : (q != q) = false := by simp
                generalize hll : ol.length = L at *
                go_wp2_with fail
                refine HRA.out.mono ?_; rintro e w5 ⟨rfl, h5⟩
                have f0' := (HT4.out.only (S := []) (Only.of_below h5.out) (by simp) (by simp)).f0
                have f1' := (HT4.out.only (S := []) (Only.of_below h5.out) (by simp) (by simp)).f1
                have f2' := (HT4.out.only (S := []) (Only.of_below h5.out) (by simp) (by simp)).f2
                clear f0 f1 f2
                simp only [Option.isSome, Option.getD]
                go_upto_region 16 with fail
                go_wp2_with fail
                refine (HRB.out w5 h5.out).mono ?_; rintro e w6 ⟨rfl, h6⟩
                simp only [Option.isSome, Option.getD]
                have h56 := h5.out.trans (h6.out.mono h5.out.size)
                have H56 := hide h56
                clear f0' f1' f2' h56 h5 h6
                go_wp2_with fail
                refine (HQA.out w6 H56.out).mono ?_; rintro e w7 ⟨rfl, rfl⟩
                go_wp2_with fail
                refine (HQB.out w6 H56.out).mono ?_; rintro e w7 ⟨rfl, rfl⟩
                go_wp2_with fail
                go_loopw [21] (fun k w1 => ∃ i : Nat, k = .int .i64 i ∧ i ≤ L ∧ Hid (Below W4.heap.size W4 w1)) (fun k _ => L - (intOf k).toNat)
                case atStart => exact ⟨0, rfl, by omega, H56⟩
                case round =>
                  obtain ⟨i, rfl, hi, hbi⟩ := hrel
                  by_cases hil : i < L
                  · have hp1 := HP1.out.below hbi.out
                    have hp2 := HP2.out.below hbi.out
                    rw [← hll] at hp1 hp2
                    obtain ⟨a1, x, rfl, hx1, hc1⟩ := hp1.elem (k := i) (by rw [hll]; exact hil)
                    obtain ⟨a2, y, rfl, hy1, hc2⟩ := hp2.elem (k := i) (by rw [hll]; exact hil)
                    have hxy : y = x := by have := hx1.out.symm.trans hy1.out; injection this with this; exact this.symm
                    subst hxy
                    have hk0 : (0 : Int) ≤ (i : Int) := by omega
                    unfold U at hc1 hc2
                    clear hp1 hp2 hx1 hy1
                    go_wp2_with fail
                    go_quiet (fail)
                    go_wp2_with fail
                    go_roundw
                    case rel => exact ⟨i + 1, by go_num, by omega, below_drewN3 hbi.out _⟩
                    case measure => simp [intOf] <;> omega
                  · go_wp2_with fail
                    go_roundw
                    case rel => exact ⟨j + 1, st', su', by go_num, by omega, HSA4.out.below hbi.out, HSB.out.below hbi.out, HFW', HFU', HGO.out, hfin.out.trans (hbi.out.mono (by omega)), by have := hbi.out.size; omega⟩
                    case measure => simp [intOf] <;> omega
    · clear h1
      go_wp2_with fail
      go_ret
      exact ⟨rfl, by rw [HB0.out]; exact HBR.out⟩
end Go.Proofs.YtnfaaiifbiobiaaDoor
