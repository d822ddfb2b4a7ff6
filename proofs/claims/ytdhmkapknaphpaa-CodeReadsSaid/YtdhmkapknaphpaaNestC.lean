/-
  code: step, walk, Spans: contracts.
-/
import Derived.Test.YtdhmkapknaphpaaNestB
namespace Go.Proofs.Ytdhmkapknaphpaa
open Go.RowKit
set_option linter.unusedVariables false

/-- how great the blocks are -/
structure NSz (i : Nat) (s : NS) : Prop where
  o : s.opn.length ≤ 64
  d : s.deep ≤ 64
  sp : s.spans.length ≤ i
theorem NSz.step {cs : List Int} {c : Int} {i : Nat} {s : NS} (h : NSz i s) : NSz (i + 1) (stepN cs c i s).2 := by
  obtain ⟨h1, h2, h3⟩ := h
  unfold stepN
  split
  · exact ⟨h1, h2, by simp only; omega⟩
  · split
    · split
      · exact ⟨h1, h2, by simp only; omega⟩
      · exact ⟨by simp; omega, by simp only; omega, by simp; omega⟩
    · split
      · split
        · exact ⟨h1, h2, by simp only; omega⟩
        · split
          · exact ⟨h1, h2, by simp; omega⟩
          · exact ⟨h1, h2, by simp only; omega⟩
      · split
        · split
          · exact ⟨h1, h2, by simp only; omega⟩
          · exact ⟨by simp; omega, h2, by simp; omega⟩
        · exact ⟨h1, h2, by simp only; omega⟩

set_option maxHeartbeats 1600000 in
theorem step_any (nb : Nat) (Al : Option Addr) (n cl : Nat) (vs vo : Value) (s : NS) (i : Nat) (c : Int) (w : World) (xs : List (Int × Int × Int × Int × Value)) (cs : List Int) (h : Hid (NE w nb Al n cl vs vo s)) (hI : Hid (IL w Al n xs cs)) (hInv : Hid (NInv cs i s)) (hS : Hid (NSz i s)) (hi : i < n) (hn : n ≤ 900000) (hcs : Hid (cs[i]? = some c)) :
    Calls Try.prog 26 #[.pointer (some ⟨nb, 0, none⟩), .int .i64 i] w (NPost w nb Al n cl vs vo (stepN cs c i s).2 (stepN cs c i s).1) := by
  have hs1 := hS.out.o
  have hs2 := hS.out.d
  have hs3 := hS.out.sp
  obtain ⟨ad, c', u1, u2, u3, u4, rfl, hc, hv, i0, i1, i2, i3, i4, hc1, hc2⟩ := hI.out.code hi
  have hcc : c' = c := by rw [hcs.out] at hc; injection hc with e; exact e.symm
  subst hcc
  clear hc
  have e0 := cell_blk h.out.blk 0
  have e3 := cell_blk h.out.blk 3
  simp at e0 e3
  by_cases hcl : s.closed = true
  · have hE : stepN cs c' i s = (4, s) := by unfold stepN; rw [if_pos hcl]
    rw [hE]
    rw [hcl] at e3
    have F := hide (NPost.quiet h.out (Only.refl [] w) 4)
    clear hE hcl
    go_enter Try.func26, Try.ntmps26
    go_wp2_with fail
    go_ret
    exact F.out
  · have hcl' : s.closed = false := by simpa using hcl
    rw [hcl'] at e3
    have HO := hide (opens_any c' u1 u2 u3 u4)
    by_cases ho : opensC c'
    · have hd : decide (opensC c') = true := by simpa using ho
      rw [hd] at HO
      by_cases h64 : s.opn.length = 64
      · have hE : stepN cs c' i s = (15, s) := by unfold stepN; rw [if_neg hcl, if_pos ho, if_pos h64]
        rw [hE]
        have H64 := hide h64
        clear hE hcl hcl' ho hd h64
        go_enter Try.func26, Try.ntmps26
        go_wp2_with fail
        refine (HO.out _ hv hc1 hc2).mono ?_; rintro e w1 ⟨rfl, ho1⟩
        go_wp2_with fail
        refine (begin_full nb _ n cl vs vo s i w1 (hide (h.out.quiet ho1.out)) H64.out).mono ?_; rintro e w2 ⟨vs', vo', rfl, k1, k2⟩
        go_wp2_with fail
        go_ret
        exact ⟨vs', vo', rfl, k1, (NW.quiet ho1.out).trans k2.out⟩
      · have hE : stepN cs c' i s = (0, { spans := s.spans ++ [((i : Int), -1, -1)], opn := s.opn ++ [s.spans.length], closed := s.closed, deep := max s.deep (s.opn.length + 1) }) := by unfold stepN; rw [if_neg hcl, if_pos ho, if_neg h64, hcl']
        rw [hE]
        clear hE hcl hcl' ho hd
        go_enter Try.func26, Try.ntmps26
        go_wp2_with fail
        refine (HO.out _ hv hc1 hc2).mono ?_; rintro e w1 ⟨rfl, ho1⟩
        go_wp2_with fail
        refine (begin_ok nb _ n cl vs vo s i w1 (hide (h.out.quiet ho1.out)) (by omega) (by omega) hs2 (by omega)).mono ?_; rintro e w2 ⟨vs', vo', rfl, k1, k2⟩
        go_wp2_with fail
        go_ret
        exact ⟨vs', vo', rfl, k1, (NW.quiet ho1.out).trans k2.out⟩
    · have hd : decide (opensC c') = false := by simpa using ho
      rw [hd] at HO
      by_cases h5 : c' = 5
      · obtain ⟨k, s', hE⟩ : ∃ k s', stepN cs c' i s = (k, s') := ⟨_, _, rfl⟩
        have hE' := hE
        rw [hE]
        unfold stepN at hE'
        rw [if_neg hcl, if_neg ho, if_pos h5] at hE'
        have HE := hide hE'
        subst h5
        clear hE hE' hcl hcl' ho hd
        go_enter Try.func26, Try.ntmps26
        go_wp2_with fail
        refine (HO.out _ hv hc1 hc2).mono ?_; rintro e w1 ⟨rfl, ho1⟩
        have h1 := hide (h.out.quiet ho1.out)
        have I1 := hide (hI.out.keep ho1.out)
        obtain ⟨ad', c2, _, _, _, _, hade, hcx, _, i0', _, _, _, _, _, _⟩ := I1.out.code hi
        injection hade with hade
        subst hade
        have : c2 = 5 := by rw [hcs.out] at hcx; injection hcx with e; exact e.symm
        subst this
        have e0' := cell_blk h1.out.blk 0
        simp at e0'
        clear hcx i0 i1 i2 i3 i4 e0 e3
        go_wp2_with fail
        refine (other_any nb _ n cl vs vo s i w1 xs cs h1 I1 hInv hs1 (by omega) hi (by omega) s' k HE).mono ?_; rintro e w2 ⟨vs', vo', rfl, k1, k2⟩
        go_wp2_with fail
        go_ret
        exact ⟨vs', vo', rfl, k1, (NW.quiet ho1.out).trans k2.out⟩
      · have f5 : (c' == 5) = false := by simpa using h5
        by_cases h11 : c' = 11
        · obtain ⟨s', hE⟩ : ∃ s', stepN cs c' i s = (0, s') := by
            unfold stepN
            rw [if_neg hcl, if_neg ho, if_neg h5, if_pos h11]
            split <;> exact ⟨_, rfl⟩
          have hE' := hE
          rw [hE]
          unfold stepN at hE'
          rw [if_neg hcl, if_neg ho, if_neg h5, if_pos h11] at hE'
          have HE : Hid ((match s.opn.getLast? with
              | none => { s with closed := true }
              | some t => { s with spans := s.spans.set t ((spanN s t).1, (spanN s t).2.1, (i : Int)), opn := s.opn.dropLast }) = s') := by
            show _ = _
            revert hE'
            cases s.opn.getLast? with
            | none => intro hE'; exact (Prod.mk.inj hE').2
            | some t => intro hE'; exact (Prod.mk.inj hE').2
          subst h11
          clear hE hE' hcl hcl' ho hd h5
          go_enter Try.func26, Try.ntmps26
          go_wp2_with fail
          refine (HO.out _ hv hc1 hc2).mono ?_; rintro e w1 ⟨rfl, ho1⟩
          have h1 := hide (h.out.quiet ho1.out)
          have I1 := hide (hI.out.keep ho1.out)
          obtain ⟨ad', c2, _, _, _, _, hade, hcx, _, i0', _, _, _, _, _, _⟩ := I1.out.code hi
          injection hade with hade
          subst hade
          have : c2 = 11 := by rw [hcs.out] at hcx; injection hcx with e; exact e.symm
          subst this
          have e0' := cell_blk h1.out.blk 0
          simp at e0'
          clear hcx i0 i1 i2 i3 i4 e0 e3
          go_wp2_with fail
          refine (end_any nb _ n cl vs vo s i w1 cs h1 hInv hs1 (by omega) hi (by omega) s' HE).mono ?_; rintro e w2 ⟨vs', vo', rfl, k1, k2⟩
          go_wp2_with fail
          go_ret
          exact ⟨vs', vo', rfl, k1, (NW.quiet ho1.out).trans k2.out⟩
        · have hE : stepN cs c' i s = (0, s) := by unfold stepN; rw [if_neg hcl, if_neg ho, if_neg h5, if_neg h11]
          rw [hE]
          have f11 : (c' == 11) = false := by simpa using h11
          clear hE hcl hcl' ho hd h5 h11
          go_enter Try.func26, Try.ntmps26
          go_wp2_with fail
          refine (HO.out _ hv hc1 hc2).mono ?_; rintro e w1 ⟨rfl, ho1⟩
          have h1 := hide (h.out.quiet ho1.out)
          have I1 := hide (hI.out.keep ho1.out)
          obtain ⟨ad', c2, _, _, _, _, hade, hcx, _, i0', _, _, _, _, _, _⟩ := I1.out.code hi
          injection hade with hade
          subst hade
          have : c2 = c' := by rw [hcs.out] at hcx; injection hcx with e; exact e.symm
          subst this
          have e0' := cell_blk h1.out.blk 0
          simp at e0'
          clear hcx i0 i1 i2 i3 i4 e0 e3
          have F := hide (NPost.quiet h.out ho1.out 0)
          go_wp2_with fail
          go_ret
          exact F.out
end Go.Proofs.Ytdhmkapknaphpaa
