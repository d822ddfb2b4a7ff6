/-
  CodeDeep: how many blocks in one another are closed, plainly; contracts of code.Deep and of Read at too many bytes; the law's walk.
-/
import Derived.Test.YtdhmkapknaphpaaNestF
import Derived.Laws.MakeOwn
namespace Go.Proofs.Ytdhmkapknaphpaa
open Go.RowKit
set_option linter.unusedVariables false

/-- so many blocks' beginnings, and one end more -/
def deepCs (n : Nat) (c : Int) : List Int := List.replicate n c ++ List.replicate (n + 1) 11
/-- what the walk over them makes, as far as it is asked -/
def deepOk (n : Nat) (c : Int) : Bool :=
  let r := goN (deepCs n c) (deepCs n c) 0 initN
  if n ≤ 64 then r.1 == 0 && r.2.1 == 0 && r.2.2.spans.length == n && r.2.2.deep == n && (r.2.2.spans.head?.map fun x => x.2.2) == some (2 * (n : Int) - 1) else r.1 == 64 && r.2.1 == 15
theorem deep_ok : ∀ k : Fin 16, deepOk (55 + k.val) 2 = true ∧ deepOk (55 + k.val) 3 = true := by decide +kernel
theorem deep_res (n : Nat) (c : Int) (h1 : 55 ≤ n) (h2 : n ≤ 70) (hc : c = 2 ∨ c = 3) :
    (n ≤ 64 ∧ ∃ x0 x1 rest dp st, goN (deepCs n c) (deepCs n c) 0 initN = (0, 0, ⟨(x0, x1, 2 * (n : Int) - 1) :: rest, st, dp, n⟩) ∧ rest.length + 1 = n) ∨ (64 < n ∧ ∃ s, goN (deepCs n c) (deepCs n c) 0 initN = (64, 15, s)) := by
  have h := deep_ok ⟨n - 55, by omega⟩
  simp only [show 55 + (n - 55) = n from by omega] at h
  have hk : deepOk n c = true := by
    rcases hc with rfl | rfl
    · exact h.1
    · exact h.2
  unfold deepOk at hk
  generalize goN (deepCs n c) (deepCs n c) 0 initN = r at hk ⊢
  obtain ⟨p, e, ⟨sp, st, dp, dd⟩⟩ := r
  by_cases hn : n ≤ 64
  · simp only [hn, if_true, Bool.and_eq_true, beq_iff_eq] at hk
    obtain ⟨⟨⟨⟨rfl, rfl⟩, hl⟩, rfl⟩, hx⟩ := hk
    cases sp with
    | nil => simp at hx
    | cons x rest =>
      obtain ⟨x0, x1, x2⟩ := x
      simp only [List.head?_cons, Option.map_some, Option.some.injEq] at hx
      subst hx
      exact .inl ⟨hn, x0, x1, rest, dp, st, rfl, by simpa using hl⟩
  · simp only [if_neg hn, Bool.and_eq_true, beq_iff_eq] at hk
    obtain ⟨rfl, rfl⟩ := hk
    exact .inr ⟨by omega, _, rfl⟩

/-- what Deep answers -/
def DPost (w : World) (r : Nat × Nat × NS) (e : Ending) (w' : World) : Prop :=
  e = .returned (.int .i64 ((if r.2.1 = 0 then r.2.2.deep else 0 : Nat) : Int)) ∧ Hid (Below w.heap.size w w')

set_option maxHeartbeats 800000 in
theorem deep_any (Al : Option Addr) (n cl : Nat) (w : World) (xs : List (Int × Int × Int × Int × Value)) (cs : List Int) (hI : Hid (IL w Al n xs cs)) (hn : n ≤ 900000) :
    Calls Try.prog 8 #[.slice Al n cl] w (DPost w (goN cs cs 0 initN)) := by
  obtain ⟨W, hW⟩ : ∃ W, w.alloc (.cells #[.slice Al n cl, .slice none 0 0, .slice none 0 0, .bool false, .int .i64 0] 53) = W := ⟨_, rfl⟩
  have hb : Below w.heap.size w W := by rw [← hW]; exact (Below.refl _ _).alloc (Nat.le_refl _) _
  have hNE : Hid (NE W w.heap.size Al n cl (.slice none 0 0) (.slice none 0 0) initN) := by
    refine ⟨by rw [← hW]; exact heap_alloc_new w _, own_nil _ _ _ _, own_nil _ _ _ _, fun g hg => by cases hg⟩
  have hsz : w.heap.size < W.heap.size := blk_lt hNE.out.blk
  have hr := hide (hI.out.reads.below hb)
  have hIW : Hid (IL W Al n xs cs) := ⟨hr.out.more (by omega), hI.out.len, hI.out.codes, hI.out.bd, hI.out.one⟩
  have HWK := hide (walk_any w.heap.size Al n cl _ _ W xs cs hNE hIW hr hn)
  obtain ⟨pl, en, sf, hE⟩ : ∃ pl en sf, goN cs cs 0 initN = (pl, en, sf) := ⟨_, _, _, rfl⟩
  rw [hE] at HWK ⊢
  have HB := hide hb; clear hb hE
  have HW := hide hW; clear hW
  go_enter Try.func8, Try.ntmps8
  go_wp2_with fail
  rw [HW.out]
  refine HWK.out.mono ?_; rintro e w2 ⟨vs2, vo2, rfl, k1, k2⟩
  have hbel : Hid (Below w.heap.size w w2) := HB.out.trans (k2.out.below hNE.out)
  by_cases hen : en = 0
  · subst hen
    have d4 := cell_blk k1.out.blk 4
    simp at d4
    go_wp2_with fail
    go_ret
    exact ⟨by simp, hbel⟩
  · have f0 : ((en : Int) == 0) = false := by simp; omega
    have f1 : ((en : Int) != 0) = true := by simp; omega
    have HEN := hide hen; clear hen
    go_wp2_with fail
    go_ret
    exact ⟨by simp only; rw [if_neg HEN.out]; rfl, hbel⟩

set_option maxHeartbeats 400000 in
theorem read_long (A : Option Addr) (n c : Nat) (w : World) (hn : 4096 < n) (h2 : n ≤ 1000000) :
    Calls Try.prog 7 #[.slice A n c] w fun e w' => e = .returned (.tuple #[.agg #[.slice none 0 0, .slice none 0 0], .int .i64 0, .int .i64 15]) ∧ Hid (Below w.heap.size w w') := by
  have hd : decide ((4096 : Int) < (n : Int)) = true := by simp; omega
  go_enter Try.func7, Try.ntmps7
  go_wp2_with fail
  refine bodyPost_ret (v := .tuple #[.agg #[.slice none 0 0, .slice none 0 0], .int .i64 0, .int .i64 15]) (by simp [results, Try.results7, go_sem]) rfl ⟨rfl, ?_⟩
  exact (Below.refl _ _).alloc (Nat.le_refl _) _

theorem u8_bd' {n : Int} (h : (Lit.int .u8 n).wf = true) : 0 ≤ n ∧ n ≤ 255 := by
  simpa [Lit.wf, IntKind.min, IntKind.max, IntKind.signed, IntKind.bits] using h

/-- the instructions so far: so many beginnings, so many ends -/
def deepXs (c : Int) (j k : Nat) : List (Int × Int × Int × Int × Value) := List.replicate j (c, 64, 0, 0, .slice none 0 0) ++ List.replicate k (11, 0, 0, 0, .slice none 0 0)
theorem deepXs_len (c : Int) (j k : Nat) : (deepXs c j k).length = j + k := by simp [deepXs]
theorem deepXs_open (c : Int) (j : Nat) : (deepXs c (j + 1) 0).flatMap insD = (deepXs c j 0).flatMap insD ++ [.int .i64 c, .int .u64 64, .int .u64 0, .int .i64 0, .slice none 0 0] := by
  simp [deepXs, List.replicate_succ', insD]
theorem deepXs_end (c : Int) (j k : Nat) : (deepXs c j (k + 1)).flatMap insD = (deepXs c j k).flatMap insD ++ [.int .i64 11, .int .u64 0, .int .u64 0, .int .i64 0, .slice none 0 0] := by
  simp [deepXs, List.replicate_succ', insD]

theorem run_make_some {P : Program} {t e : TypeId} {size bytes : Nat} (hE : IsElem P t e size bytes) (W : World) (n : Nat) (hb : bytes * n ≤ 1000000000) (hn : n ≤ 1000000000) :
    ∃ o, (Instr.makeSlice t (.int .i64 (n : Int)) (.int .i64 (n : Int))).run P W = .ok (.slice (some ⟨W.heap.size, 0, none⟩) n n) (W.alloc o) := by
  obtain ⟨ht, i, z, hi, hz, hsize, hby, hzs, hsz⟩ := hE
  have h := run_make (P := P) W t e i z ht hi hz .i64 .i64 n n (by omega) (by omega) (by rw [hby]; rw [← Int.natCast_mul]; omega) (by omega)
  rw [Int.toNat_natCast] at h
  exact ⟨_, h⟩
theorem u8_elem' : IsElem Try.prog 37 5 1 1 := IsElem.mk' Try.underlying37 (z := .int .u8 0) (by kernel_rfl) rfl (by omega)

set_option maxHeartbeats 3200000 in
set_option maxRecDepth 100000 in
theorem CodeDeep_walk (a : Int) (lp : Bool) (w : World) (wa : (Lit.int .u8 a).wf = true) :
    Calls Try.prog 3 #[.int .u8 a, .bool lp] w fun e w' => e = .returned (.bool true) ∧ Below w.heap.size w w' := by
  have ha := u8_bd' wa
  obtain ⟨m, rfl⟩ : ∃ m : Nat, a = m := ⟨a.toNat, by omega⟩
  obtain ⟨n, hn⟩ : ∃ n : Nat, 55 + m % 16 = n := ⟨_, rfl⟩
  have h1 : 55 ≤ n := by omega
  have h2 : n ≤ 70 := by omega
  have HN : Hid ((55 : Int) + (m : Int) % 16 = (n : Int)) := by show _ = _; omega
  clear hn
  obtain ⟨ha0, ha1⟩ := ha
  clear wa
  obtain ⟨c, hc, hcl⟩ : ∃ c : Int, (c = 2 ∨ c = 3) ∧ ((lp = true ∧ c = 3) ∨ (lp = false ∧ c = 2)) := by
    cases lp
    · exact ⟨2, .inl rfl, .inr ⟨rfl, rfl⟩⟩
    · exact ⟨3, .inr rfl, .inl ⟨rfl, rfl⟩⟩
  have HC := hide hc; clear hc
  have HCL := hide hcl; clear hcl
  go_enter Try.func3, Try.ntmps3
  go_wp2_with fail
  refine (awakeN w).mono ?_; rintro e w1 ⟨rfl, hb1⟩
  have HB1 := hide hb1; clear hb1
  obtain ⟨base, hbase⟩ : ∃ b, w1.heap.size = b := ⟨_, rfl⟩
  have HB := hide hbase; clear hbase
  go_wp2_with fail
  rw [HN.out]
  go_loopw [6, 7] (fun v i w2 => ∃ k : Nat, i = .int .i64 k ∧ k ≤ n ∧ Hid (w2.ownsRow base 27 5 v k ((deepXs c k 0).flatMap insD)) ∧ Hid (Below base w1 w2) ∧ base ≤ w2.heap.size) (fun _ i _ => n - (intOf i).toNat)
  case atStart => exact ⟨0, rfl, by omega, own_nil _ _ _ _, Below.refl _ _, by rw [HB.out]; omega⟩
  case round =>
    obtain ⟨k, rfl, hk, ho, hbl, hsz⟩ := hrel
    by_cases hlt : k < n
    · have hroom : Room k 1 56 := room_of (by omega) (by omega)
      rcases HCL.out with ⟨rfl, rfl⟩ | ⟨rfl, rfl⟩
      · have hoW : Hid ((wr.alloc (.cells #[.int .i64 3, .int .u64 64, .int .u64 0, .int .i64 0, .slice none 0 0] 27)).ownsRow base 27 5 _ k ((deepXs 3 k 0).flatMap insD)) := ho.out.alloc _
        have hsz1 : Hid ((wr.alloc (.cells #[.int .i64 3, .int .u64 64, .int .u64 0, .int .i64 0, .slice none 0 0] 27)).heap.size = wr.heap.size + 1) := by show _ = _; simp
        have hsW : base ≤ (wr.alloc (.cells #[.int .i64 3, .int .u64 64, .int .u64 0, .int .i64 0, .slice none 0 0] 27)).heap.size := by simp; omega
        go_upto_region 11 with fail
        go_wp2_with (at_builtin; refine wpList_push_n rfl _ _ rfl base ins_elem _ k ((deepXs 3 k 0).flatMap insD) rfl (wr.alloc (.cells #[.int .i64 3, .int .u64 64, .int .u64 0, .int .i64 0, .slice none 0 0] 27)) [.int .i64 3, .int .u64 64, .int .u64 0, .int .i64 0, .slice none 0 0] 27 rfl hoW.out (congrArg (fun g => Value.slice (some ⟨g, 0, none⟩) 1 1) hsz1.out.symm) rfl (by simp [Value.oneCell']) hroom hsW ?_; intro v' w3 ho3 hg3)
        have hb3 := hg3.below (by simp; omega) (own_ge ho.out)
        have hown3 : Hid (w3.ownsRow base 27 5 v' (k + 1) ((deepXs 3 (k + 1) 0).flatMap insD)) := own_cast ho3 rfl (deepXs_open 3 k).symm
        have hbF : Hid (Below base w1 w3) := (hbl.out.alloc hsz _).trans hb3
        have hsF : base ≤ w3.heap.size := by have := hb3.size; simp at this; omega
        go_roundw
        case rel => exact ⟨k + 1, by go_num, by omega, hown3, hbF, hsF⟩
        case measure => simp [intOf] <;> omega
      · have hoW : Hid ((wr.alloc (.cells #[.int .i64 2, .int .u64 64, .int .u64 0, .int .i64 0, .slice none 0 0] 27)).ownsRow base 27 5 _ k ((deepXs 2 k 0).flatMap insD)) := ho.out.alloc _
        have hsz1 : Hid ((wr.alloc (.cells #[.int .i64 2, .int .u64 64, .int .u64 0, .int .i64 0, .slice none 0 0] 27)).heap.size = wr.heap.size + 1) := by show _ = _; simp
        have hsW : base ≤ (wr.alloc (.cells #[.int .i64 2, .int .u64 64, .int .u64 0, .int .i64 0, .slice none 0 0] 27)).heap.size := by simp; omega
        go_upto_region 11 with fail
        go_wp2_with (at_builtin; refine wpList_push_n rfl _ _ rfl base ins_elem _ k ((deepXs 2 k 0).flatMap insD) rfl (wr.alloc (.cells #[.int .i64 2, .int .u64 64, .int .u64 0, .int .i64 0, .slice none 0 0] 27)) [.int .i64 2, .int .u64 64, .int .u64 0, .int .i64 0, .slice none 0 0] 27 rfl hoW.out (congrArg (fun g => Value.slice (some ⟨g, 0, none⟩) 1 1) hsz1.out.symm) rfl (by simp [Value.oneCell']) hroom hsW ?_; intro v' w3 ho3 hg3)
        have hb3 := hg3.below (by simp; omega) (own_ge ho.out)
        have hown3 : Hid (w3.ownsRow base 27 5 v' (k + 1) ((deepXs 2 (k + 1) 0).flatMap insD)) := own_cast ho3 rfl (deepXs_open 2 k).symm
        have hbF : Hid (Below base w1 w3) := (hbl.out.alloc hsz _).trans hb3
        have hsF : base ≤ w3.heap.size := by have := hb3.size; simp at this; omega
        go_roundw
        case rel => exact ⟨k + 1, by go_num, by omega, hown3, hbF, hsF⟩
        case measure => simp [intOf] <;> omega
    · have hkn : k = n := by omega
      subst hkn
      clear hlt
      clear ha0 ha1 HN
      go_wp2_with fail
      go_loopw [6, 9] (fun v i w2 => ∃ j : Nat, i = .int .i64 j ∧ j ≤ k + 1 ∧ Hid (w2.ownsRow base 27 5 v (k + j) ((deepXs c k j).flatMap insD)) ∧ Hid (Below base w1 w2) ∧ base ≤ w2.heap.size) (fun _ i _ => k + 1 - (intOf i).toNat)
      case atStart => exact ⟨0, rfl, by omega, ho, hbl, hsz⟩
      case round =>
        clear ho hbl hsz
        obtain ⟨j, rfl, hj, ho, hbl, hsz⟩ := hrel
        by_cases hlt : j < k + 1
        · have hroom : Room (k + j) 1 56 := room_of (by omega) (by omega)
          have hjk : j ≤ k := by omega
          clear hlt
          go_wp2_with (at_builtin; refine wpList_push_n rfl _ _ rfl base ins_elem _ (k + j) ((deepXs c k j).flatMap insD) rfl wr [.int .i64 11, .int .u64 0, .int .u64 0, .int .i64 0, .slice none 0 0] 27 rfl ho.out rfl rfl (by simp [Value.oneCell']) hroom hsz ?_; intro v' w3 ho3 hg3)
          have hb3 := hg3.below hsz (own_ge ho.out)
          have hown3 : Hid (w3.ownsRow base 27 5 v' (k + (j + 1)) ((deepXs c k (j + 1)).flatMap insD)) := own_cast ho3 rfl (deepXs_end c k j).symm
          have hbF : Hid (Below base w1 w3) := hbl.out.trans hb3
          have hsF : base ≤ w3.heap.size := Nat.le_trans hsz hb3.size
          go_roundw
          case rel => exact ⟨j + 1, by go_num, by omega, hown3, hbF, hsF⟩
          case measure => simp [intOf] <;> omega
        · have hjk : j = k + 1 := by omega
          subst hjk
          clear hlt
          obtain ⟨A3, c3, rfl, hcc1, hcc2⟩ := own_form ho.out
          have hIL : Hid (IL wr A3 (k + (k + 1)) (deepXs c k (k + 1)) (deepCs k c)) := ⟨Reads.of_own ho.out, deepXs_len c k (k + 1), by simp [deepXs, deepCs], fun x hx => by
            have := HC.out
            simp [deepCs] at hx
            omega, fun x hx => by
            simp [deepXs] at hx
            rcases hx with ⟨_, rfl⟩ | rfl <;> rfl⟩
          have HSP := hide (spans_any A3 (k + (k + 1)) c3 wr (deepXs c k (k + 1)) (deepCs k c) hIL (by omega))
          have HBW : Hid (Below w.heap.size w wr) := HB1.out.trans (hbl.out.mono (by rw [← HB.out]; exact HB1.out.size))
          have HRES := deep_res k c h1 h2 HC.out
          have hmk : ∀ W : World, ∃ o, (Instr.makeSlice 37 (.int .i64 4097) (.int .i64 4097)).run Try.prog W = .ok (.slice (some ⟨W.heap.size, 0, none⟩) 4097 4097) (W.alloc o) := fun W => run_make_some u8_elem' W 4097 (by omega) (by omega)
          rcases HRES with ⟨h64, x0, x1, rest, dp, st, hE, hrl⟩ | ⟨h64, sf, hE⟩
          · rw [hE] at HSP
            have HE := hide hE; clear hE
            have HRL := hide hrl; clear hrl
            go_wp2_with fail
            refine HSP.out.mono ?_; rintro e w4 ⟨v4, ss, rfl, hss, ho4, hb4⟩
            have hss' := hss.out
            simp only [if_true] at hss'
            subst hss'
            obtain ⟨g4, cp4, rfl, hg4, hcp4⟩ := ho4.out.form (by simp)
            have HL : Hid (((x0, x1, 2 * (k : Int) - 1) :: rest).length = k) := by show _ = _; simp; exact HRL.out
            obtain ⟨o, hmk4⟩ := hmk w4
            clear hmk hss
            rw [HL.out]
            simp only [if_true]
            have hb5 := hide (read_long (some ⟨w4.heap.size, 0, none⟩) 4097 4097 (w4.alloc o) (by omega) (by omega))
            go_wp2_with fail
            refine hb5.out.mono ?_; rintro e w6 ⟨rfl, hb6⟩
            have HB6 : Hid (Below w4.heap.size w4 w6) := ((Below.refl _ _).alloc (Nat.le_refl _) _).trans (hb6.out.mono (by simp))
            clear hmk4 hb5 hb6
            obtain ⟨W6, hW6⟩ : ∃ W6, w6.alloc (.cells #[.slice none 0 0, .slice none 0 0] 34) = W6 := ⟨_, rfl⟩
            have HB7 : Hid (Below w4.heap.size w4 W6) := by rw [← hW6]; exact HB6.out.alloc HB6.out.size _
            have HW6 := hide hW6; clear hW6
            have hI7 := hide (hIL.out.below hIL.out.reads (hb4.out.trans (HB7.out.mono hb4.out.size)) (Nat.le_trans hb4.out.size HB7.out.size))
            have HD := hide (deep_any A3 (k + (k + 1)) c3 W6 (deepXs c k (k + 1)) (deepCs k c) hI7 (by omega))
            rw [HE.out] at HD
            go_wp2_with fail
            rw [HW6.out]
            refine HD.out.mono ?_; rintro e w7 ⟨rfl, hb7⟩
            have HB8 : Hid (Below w4.heap.size w4 w7) := HB7.out.trans (hb7.out.mono HB7.out.size)
            have hcell := ho4.out.cells (g := g4) rfl 2 (.int .i64 (2 * (k : Int) - 1)) rfl
            have hg4' := own_lt ho4.out g4 rfl
            have hc2 : w7.cell? ⟨g4, 2, none⟩ = some (.int .i64 (2 * (k : Int) - 1)) := (HB8.out.cell (p := ⟨g4, 2, none⟩) hg4').trans (by simpa [Addr.add] using hcell)
            clear hcell hg4'
            simp only [if_true]
            have HF : Hid (Below w.heap.size w w7) := (HBW.out.trans (hb4.out.mono HBW.out.size)).trans (HB8.out.mono (Nat.le_trans HBW.out.size hb4.out.size))
            go_wp2_with fail
            go_ret
            exact ⟨rfl, HF.out⟩
          · rw [hE] at HSP
            have HE := hide hE; clear hE
            go_wp2_with fail
            refine HSP.out.mono ?_; rintro e w4 ⟨v4, ss, rfl, hss, ho4, hb4⟩
            have hss' := hss.out
            simp only [show ¬ (15 : Nat) = 0 from by omega, if_false] at hss'
            subst hss'
            obtain ⟨A4, cp4, rfl, hg4, hcp4⟩ := own_form ho4.out
            obtain ⟨o, hmk4⟩ := hmk w4
            clear hmk hss
            simp only [List.length_nil, show ¬ (15 : Nat) = 0 from by omega, if_false]
            have hb5 := hide (read_long (some ⟨w4.heap.size, 0, none⟩) 4097 4097 (w4.alloc o) (by omega) (by omega))
            have hk64 : decide ((k : Int) ≤ 64) = false := by simp; omega
            go_wp2_with fail
            refine hb5.out.mono ?_; rintro e w6 ⟨rfl, hb6⟩
            have HB6 : Hid (Below w4.heap.size w4 w6) := ((Below.refl _ _).alloc (Nat.le_refl _) _).trans (hb6.out.mono (by simp))
            clear hmk4 hb5 hb6
            obtain ⟨W6, hW6⟩ : ∃ W6, w6.alloc (.cells #[.slice none 0 0, .slice none 0 0] 34) = W6 := ⟨_, rfl⟩
            have HB7 : Hid (Below w4.heap.size w4 W6) := by rw [← hW6]; exact HB6.out.alloc HB6.out.size _
            have HW6 := hide hW6; clear hW6
            have hI7 := hide (hIL.out.below hIL.out.reads (hb4.out.trans (HB7.out.mono hb4.out.size)) (Nat.le_trans hb4.out.size HB7.out.size))
            have HD := hide (deep_any A3 (k + (k + 1)) c3 W6 (deepXs c k (k + 1)) (deepCs k c) hI7 (by omega))
            rw [HE.out] at HD
            go_wp2_with fail
            rw [HW6.out]
            refine HD.out.mono ?_; rintro e w7 ⟨rfl, hb7⟩
            have HB8 : Hid (Below w4.heap.size w4 w7) := HB7.out.trans (hb7.out.mono HB7.out.size)
            simp only [show ¬ (15 : Nat) = 0 from by omega, if_false]
            have HF : Hid (Below w.heap.size w w7) := (HBW.out.trans (hb4.out.mono HBW.out.size)).trans (HB8.out.mono (Nat.le_trans HBW.out.size hb4.out.size))
            go_wp2_with fail
            go_ret
            exact ⟨rfl, HF.out⟩
end Go.Proofs.Ytdhmkapknaphpaa
