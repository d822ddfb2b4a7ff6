/-
  op: All: contract. (Written by wip/gen-opn.py.)
-/
import Derived.Test.YtpanlhbdphobdaaGreatDoorFaBJ
namespace Go.Proofs.YtpanlhbdphobdaaGreatDoor
open Go.RowKit
set_option linter.unusedVariables false

theorem perm_lift {α β : Type} {f : α → β} {l k : List β} (h : l.Perm k) : ∀ m : List α, k = m.map f → ∃ m' : List α, m'.Perm m ∧ l = m'.map f := by
  induction h with
  | nil => intro m hm; exact ⟨m, .refl _, by rw [← hm]⟩
  | cons x _ ih =>
    intro m hm
    cases m with
    | nil => cases hm
    | cons a r =>
      injection hm with h1 h2
      obtain ⟨r', h3, h4⟩ := ih r h2
      exact ⟨a :: r', h3.cons a, by rw [List.map_cons, ← h4, h1]⟩
  | swap x y l =>
    intro m hm
    match m, hm with
    | a :: b :: r, hm =>
      injection hm with h1 h2
      injection h2 with h2 h3
      exact ⟨b :: a :: r, .swap _ _ _, by rw [List.map_cons, List.map_cons, ← h1, ← h2, ← h3]⟩
  | trans _ _ ih1 ih2 =>
    intro m hm
    obtain ⟨m1, p1, e1⟩ := ih2 m hm
    obtain ⟨m2, p2, e2⟩ := ih1 m1 e1
    exact ⟨m2, p2.trans p1, e2⟩

set_option maxRecDepth 100000 in
set_option maxHeartbeats 3200000 in
theorem all_any (w : World) : Calls Tryz.prog 72 #[] w fun e w' => ∃ (A : Option Addr) (c : Nat) (ys : List IOp) (rs : List OpRow), e = .returned (.slice A 111 c) ∧ Hid (AllS w' w.heap.size (.slice A 111 c) 111 rs ys) ∧ Hid (rs.Perm allRows) ∧ Hid (Below w.heap.size w w') := by
  obtain ⟨C1, hC1⟩ : ∃ C, (opRows1.flatMap OpRow.D).toArray = C := ⟨_, rfl⟩
  obtain ⟨C2, hC2⟩ : ∃ C, (opRows2.flatMap OpRow.D).toArray = C := ⟨_, rfl⟩
  obtain ⟨C3, hC3⟩ : ∃ C, (opSpans.flatMap OpSpan.D).toArray = C := ⟨_, rfl⟩
  have HT1 := hide (fun w => rows_any w)
  have HT2 := hide (fun w => late_any w)
  have HT3 := hide (fun w => spans_tab w)
  rw [hC1] at HT1
  rw [hC2] at HT2
  rw [hC3] at HT3
  have HC1 := hide hC1
  have HC2 := hide hC2
  have HC3 := hide hC3
  clear hC1 hC2 hC3
  obtain ⟨base, hbase⟩ : ∃ b, w.heap.size = b := ⟨_, rfl⟩
  have HBA := hide hbase
  clear hbase
  go_enter Tryz.func72, Tryz.ntmps72
  go_wp2_with fail
  refine (HT1.out _).mono ?_; rintro e w1 ⟨rfl, hb1⟩
  have hbel : Hid (Below base w w1) := by show Below _ _ _; rw [← HBA.out]; exact hb1.out
  have hsz1 : base ≤ w1.heap.size := by have := hb1.out.size; have := HBA.out; omega
  clear hb1
  go_wp2_with fail
  go_loopw [1, 12] (fun v i w1 => ∃ (k : Nat) (ys : List IOp) (A : Option Addr) (c : Nat), v = .slice A k c ∧ i = .int .i64 k ∧ k ≤ 47 ∧ Hid (AllS w1 base (.slice A k c) k (opRows1.take k) ys) ∧ Hid (Below base w w1) ∧ base ≤ w1.heap.size) (fun _ i _ => 47 - (intOf i).toNat)
  case atStart => exact ⟨0, [], none, 0, rfl, rfl, by omega, AllS.nil _ _, hbel, hsz1⟩
  case round =>
    clear hbel hsz1
    obtain ⟨k, ys, A, c, rfl, rfl, hk, hs, hb, hsz⟩ := hrel
    have hlt2 : True := trivial
    by_cases hlt : k < 47
    · obtain ⟨r, hr⟩ : ∃ r, opRows1[k]? = some r := ⟨_, List.getElem?_eq_getElem (by simpa [opRows1] using hlt)⟩
      have hix : ∀ W, (Instr.index 150 (.agg C1) (.int .i64 k)).run Tryz.prog W = .ok (.agg #[.int .i64 r.code, .string r.name, .int .i64 r.form, .string r.takes, .string r.gives]) W := fun W => by
        rw [← HC1.out]; exact run_index_row opRows1_tab OpRow.D (fun _ => rfl) opRows1 rfl k r hr W
      obtain ⟨hcd, hok⟩ := row_facts (r := r) (by unfold allRows; simp only [List.mem_append]; exact .inl (List.mem_of_getElem? hr))
      have HST := hide (take_snoc hr)
      have HCD := hide hcd
      have HIN := hide (fun W => info_any r (hide hok) W)
      obtain ⟨W0, hW0⟩ : ∃ W0, wr.alloc (.cells #[.int .i64 r.code, .string r.name, .int .i64 r.form, .string r.takes, .string r.gives] 109) = W0 := ⟨_, rfl⟩
      have hb0 : Hid (Below wr.heap.size wr W0) := by show Below _ _ _; rw [← hW0]; exact (Below.refl _ _).alloc (Nat.le_refl _) _
      have hx0 : W0.heap[wr.heap.size]? = some (.cells #[.int .i64 r.code, .string r.name, .int .i64 r.form, .string r.takes, .string r.gives] 109 (0, 0)) := by rw [← hW0]; exact heap_alloc_new wr _
      have p0 := cell_blk hx0 0
      have p1 := cell_blk hx0 1
      have p2 := cell_blk hx0 2
      have p3 := cell_blk hx0 3
      have p4 := cell_blk hx0 4
      simp at p0 p1 p2 p3 p4
      have HW0 := hide hW0
      clear hr hcd hok hW0 hx0 hlt2
      go_upto_region 5 with fail
      rw [HW0.out]
      go_wp2_with fail
      refine (HIN.out _).mono ?_; rintro e w2 ⟨A1, c1, A2, c2, rfl, ho1, ho2, hb2⟩
      have hb02 : Hid (Below wr.heap.size wr w2) := hb0.out.trans (hb2.out.mono hb0.out.size)
      have hs2 := hide (hs.out.below hb02.out)
      have hsz2 : base ≤ w2.heap.size := Nat.le_trans hsz hb02.out.size
      have hroom : Room k 1 80 := room_of (by omega) (by omega)
      clear p0 p1 p2 p3 p4
      go_wp2_with (at_builtin; refine wpList_push_n rfl _ _ rfl base opinfo_elem (.slice A k c) k (ys.flatMap opV) rfl w2 [.int .i64 r.code, .string r.name, .int .i64 r.form, .slice A1 r.takes.size c1, .slice A2 r.gives.size c2] 63 rfl hs2.out.own rfl rfl (by simp [Value.oneCell']) hroom hsz2 ?_; intro v' w3 ho3 hg3; have ho3' := hide ho3; have hg3' := hide hg3; clear ho3 hg3)
      have hb3 := hg3'.out.below hsz2 (own_ge hs2.out.own)
      obtain ⟨y, hs3⟩ := hs2.out.push r HCD.out A1 A2 c1 c2 ho3'.out
      obtain ⟨A', c', rfl, _, _⟩ := own_form hs3.own
      go_roundw
      case rel => exact ⟨k + 1, ys ++ [y], A', c', rfl, by go_num, by omega, by show AllS _ _ _ _ _ _; rw [HST.out]; exact hs3, (hb.out.trans (hb02.out.mono hsz)).trans hb3, Nat.le_trans hsz2 hb3.size⟩
      case measure => simp [intOf] <;> omega
    · have hk47 : k = 47 := by omega
      subst hk47
      have hs2 : Hid (AllS wr base (.slice A 47 c) (47 + 0) (opRows1 ++ opRows2.take 0) ys) := by
        have := hs.out
        rw [List.take_of_length_le (by simp [opRows1])] at this
        show AllS _ _ _ _ _ _
        simpa using this
      clear hlt hk hs hlt2 HT1 HC1
      go_wp2_with fail
      refine (HT2.out _).mono ?_; rintro e w2 ⟨rfl, hb2⟩
      have hs0 := hide (hs2.out.below hb2.out)
      have hbel : Hid (Below base w w2) := hb.out.trans (hb2.out.mono hsz)
      have hsz1 : base ≤ w2.heap.size := Nat.le_trans hsz hb2.out.size
      clear hb2 hs2 hb hsz
      go_wp2_with fail
      go_loopw [1, 22] (fun v i w1 => ∃ (k : Nat) (ys : List IOp) (A : Option Addr) (c : Nat), v = .slice A (47 + k) c ∧ i = .int .i64 k ∧ k ≤ 6 ∧ Hid (AllS w1 base (.slice A (47 + k) c) (47 + k) (opRows1 ++ opRows2.take k) ys) ∧ Hid (Below base w w1) ∧ base ≤ w1.heap.size) (fun _ i _ => 6 - (intOf i).toNat)
      case atStart => exact ⟨0, ys, A, c, rfl, rfl, by omega, hs0, hbel, hsz1⟩
      case round =>
        clear hbel hsz1 hs0
        obtain ⟨k, ys, A, c, rfl, rfl, hk, hs, hb, hsz⟩ := hrel
        have hlt2 : True := trivial
        by_cases hlt : k < 6
        · obtain ⟨r, hr⟩ : ∃ r, opRows2[k]? = some r := ⟨_, List.getElem?_eq_getElem (by simpa [opRows2] using hlt)⟩
          have hix : ∀ W, (Instr.index 152 (.agg C2) (.int .i64 k)).run Tryz.prog W = .ok (.agg #[.int .i64 r.code, .string r.name, .int .i64 r.form, .string r.takes, .string r.gives]) W := fun W => by
            rw [← HC2.out]; exact run_index_row opRows2_tab OpRow.D (fun _ => rfl) opRows2 rfl k r hr W
          obtain ⟨hcd, hok⟩ := row_facts (r := r) (by unfold allRows; simp only [List.mem_append]; exact .inr (.inl (List.mem_of_getElem? hr)))
          have HST := hide (take_snoc hr)
          have HCD := hide hcd
          have HIN := hide (fun W => info_any r (hide hok) W)
          obtain ⟨W0, hW0⟩ : ∃ W0, wr.alloc (.cells #[.int .i64 r.code, .string r.name, .int .i64 r.form, .string r.takes, .string r.gives] 109) = W0 := ⟨_, rfl⟩
          have hb0 : Hid (Below wr.heap.size wr W0) := by show Below _ _ _; rw [← hW0]; exact (Below.refl _ _).alloc (Nat.le_refl _) _
          have hx0 : W0.heap[wr.heap.size]? = some (.cells #[.int .i64 r.code, .string r.name, .int .i64 r.form, .string r.takes, .string r.gives] 109 (0, 0)) := by rw [← hW0]; exact heap_alloc_new wr _
          have p0 := cell_blk hx0 0
          have p1 := cell_blk hx0 1
          have p2 := cell_blk hx0 2
          have p3 := cell_blk hx0 3
          have p4 := cell_blk hx0 4
          simp at p0 p1 p2 p3 p4
          have HW0 := hide hW0
          clear hr hcd hok hW0 hx0 hlt2
          go_upto_region 10 with fail
          rw [HW0.out]
          go_wp2_with fail
          refine (HIN.out _).mono ?_; rintro e w2 ⟨A1, c1, A2, c2, rfl, ho1, ho2, hb2⟩
          have hb02 : Hid (Below wr.heap.size wr w2) := hb0.out.trans (hb2.out.mono hb0.out.size)
          have hs2 := hide (hs.out.below hb02.out)
          have hsz2 : base ≤ w2.heap.size := Nat.le_trans hsz hb02.out.size
          have hroom : Room (47 + k) 1 80 := room_of (by omega) (by omega)
          clear p0 p1 p2 p3 p4
          go_wp2_with (at_builtin; refine wpList_push_n rfl _ _ rfl base opinfo_elem (.slice A (47 + k) c) (47 + k) (ys.flatMap opV) rfl w2 [.int .i64 r.code, .string r.name, .int .i64 r.form, .slice A1 r.takes.size c1, .slice A2 r.gives.size c2] 63 rfl hs2.out.own rfl rfl (by simp [Value.oneCell']) hroom hsz2 ?_; intro v' w3 ho3 hg3; have ho3' := hide ho3; have hg3' := hide hg3; clear ho3 hg3)
          have hb3 := hg3'.out.below hsz2 (own_ge hs2.out.own)
          obtain ⟨y, hs3⟩ := hs2.out.push r HCD.out A1 A2 c1 c2 ho3'.out
          obtain ⟨A', c', rfl, _, _⟩ := own_form hs3.own
          go_roundw
          case rel => exact ⟨k + 1, ys ++ [y], A', c', by rw [show 47 + (k + 1) = 47 + k + 1 from by omega], by go_num, by omega, by show AllS _ _ _ _ _ _; rw [HST.out, ← List.append_assoc, show 47 + (k + 1) = 47 + k + 1 from by omega]; exact hs3, (hb.out.trans (hb02.out.mono hsz)).trans hb3, Nat.le_trans hsz2 hb3.size⟩
          case measure => simp [intOf] <;> omega
        · have hk6 : k = 6 := by omega
          subst hk6
          have hs2 : Hid (AllS wr base (.slice A (47 + 6) c) 53 (opRows1 ++ (opRows2 ++ (opSpans.take 0).flatMap spanRows)) ys) := by
            have := hs.out
            rw [List.take_of_length_le (by simp [opRows2])] at this
            show AllS _ _ _ _ _ _
            simpa using this
          clear hlt hk hs hlt2 HT2 HC2
          go_wp2_with fail
          refine (HT3.out _).mono ?_; rintro e w3 ⟨rfl, hb3⟩
          have hs0 := hide (hs2.out.below hb3.out)
          have hbel : Hid (Below base w w3) := hb.out.trans (hb3.out.mono hsz)
          have hsz3 : base ≤ w3.heap.size := Nat.le_trans hsz hb3.out.size
          clear hb3 hs2 hb hsz
          go_wp2_with fail
          go_loopw [1, 32] (fun v i w1 => ∃ (j n : Nat) (ys : List IOp) (rs : List OpRow) (A : Option Addr) (c : Nat), v = .slice A n c ∧ i = .int .i64 j ∧ j ≤ 8 ∧ n ≤ 53 + 20 * j ∧ Hid (rs = opRows1 ++ (opRows2 ++ (opSpans.take j).flatMap spanRows)) ∧ Hid (AllS w1 base (.slice A n c) n rs ys) ∧ Hid (Below base w w1) ∧ base ≤ w1.heap.size) (fun _ i _ => 8 - (intOf i).toNat)
          case atStart => exact ⟨0, 53, ys, _, A, c, rfl, rfl, by omega, by omega, rfl, hs0, hbel, hsz3⟩
          case round =>
            clear hbel hsz3 hs0
            obtain ⟨j, n, ys, rs, A, c, rfl, rfl, hj, hn, hrs, hs, hb, hsz⟩ := hrel
            by_cases hlt : j < 8
            · obtain ⟨s, hsp⟩ : ∃ s, opSpans[j]? = some s := ⟨_, List.getElem?_eq_getElem (by simpa [opSpans] using hlt)⟩
              have hix : ∀ W, (Instr.index 163 (.agg C3) (.int .i64 j)).run Tryz.prog W = .ok (.agg #[.int .i64 s.first, .int .i64 s.many, .int .i64 s.group, .int .i64 s.bits, .int .i64 s.base]) W := fun W => by
                rw [← HC3.out]; exact run_index_row opSpans_tab OpSpan.D (fun _ => rfl) opSpans rfl j s hsp W
              have HSP := hide hsp
              have HSB := hide (opSpans_bd s (List.mem_of_getElem? hsp))
              have hf0 := HSB.out.1
              have hf1 := HSB.out.2.1
              have hm0 := HSB.out.2.2.1
              have hm1 := HSB.out.2.2.2.1
              obtain ⟨W0, hW0⟩ : ∃ W0, wr.alloc (.cells #[.int .i64 s.first, .int .i64 s.many, .int .i64 s.group, .int .i64 s.bits, .int .i64 s.base] 162) = W0 := ⟨_, rfl⟩
              obtain ⟨gs, hgs⟩ : ∃ g, wr.heap.size = g := ⟨_, rfl⟩
              have hb0 : Hid (Below wr.heap.size wr W0) := by show Below _ _ _; rw [← hW0]; exact (Below.refl _ _).alloc (Nat.le_refl _) _
              have hx0 : W0.heap[gs]? = some (.cells #[.int .i64 s.first, .int .i64 s.many, .int .i64 s.group, .int .i64 s.bits, .int .i64 s.base] 162 (0, 0)) := by rw [← hW0, ← hgs]; exact heap_alloc_new wr _
              have p1 := cell_blk hx0 1
              simp at p1
              have hs0 : Hid (AllS W0 base (.slice A n c) (n + 0) (rs ++ (spanRows s).take 0) ys) := by
                have := hs.out.below hb0.out
                rw [List.take_zero, List.append_nil]
                exact this
              have hbb0 : Hid (Below base w W0) := hb.out.trans (hb0.out.mono hsz)
              have hszg : base ≤ gs := by omega
              have HAP : Hid (∀ q, (Value.slice A (n + 0) c).ownBlock = some q → q ≠ gs) := fun q hq => by have := own_lt hs.out.own q hq; omega
              have HW0 := hide hW0; have HX0 := hide hx0; have HGS := hide hgs
              clear hsp hW0 hx0 hgs
              go_upto_region 15 with fail
              rw [HW0.out, HGS.out]
              go_wp2_with fail
              clear p1 hs hb hb0 HW0 HGS hsz
              have hj8 : decide ((j : Int) < 8) = true := by simp; omega
              simp only [hj8]
              clear hj8
              go_loopw [1, 37] (fun v i w1 => ∃ (k : Nat) (ys : List IOp) (A : Option Addr) (c : Nat), v = .slice A (n + k) c ∧ i = .int .i64 k ∧ (k : Int) ≤ s.many ∧ Hid (AllS w1 base (.slice A (n + k) c) (n + k) (rs ++ (spanRows s).take k) ys) ∧ Hid (w1.heap[gs]? = some (.cells #[.int .i64 s.first, .int .i64 s.many, .int .i64 s.group, .int .i64 s.bits, .int .i64 s.base] 162 (0, 0))) ∧ Hid (∀ q, (Value.slice A (n + k) c).ownBlock = some q → q ≠ gs) ∧ Hid (Below base w w1) ∧ gs < w1.heap.size) (fun _ i _ => s.many.toNat - (intOf i).toNat)
              case atStart => exact ⟨0, ys, A, c, rfl, rfl, by omega, hs0, HX0, HAP, hbb0, blk_lt HX0.out⟩
              case round =>
                clear hs0 HX0 hbb0 hix HAP
                obtain ⟨k, ys, A, c, rfl, rfl, hk, hs, hx, hap, hb, hsz⟩ := hrel
                have p0 := cell_blk hx.out 0
                simp at p0
                by_cases hlt2 : (k : Int) < s.many
                · obtain ⟨r, hr, hnr⟩ : ∃ r, (spanRows s)[k]? = some r ∧ numRow (s.first + (k : Int)) = some r := span_at (List.mem_of_getElem? HSP.out) hlt2
                  have hmem : r ∈ allRows := by
                    unfold allRows
                    simp only [List.mem_append]
                    exact .inr (.inr (List.mem_flatMap.2 ⟨s, List.mem_of_getElem? HSP.out, List.mem_of_getElem? hr⟩))
                  obtain ⟨hcd, hok⟩ := row_facts hmem
                  have HST := hide (take_snoc hr)
                  have HCD := hide hcd
                  have HIN := hide (fun W => info_any r (hide hok) W)
                  have HNB := hide (numbered_any (s.first + (k : Int)) wr (by omega) (by omega))
                  rw [hnr] at HNB
                  clear hr hcd hok hnr hmem
                  go_wp2_with fail
                  refine HNB.out.mono ?_; rintro e wn ⟨rfl, hbn⟩
                  rw [rowV_some]
                  obtain ⟨W0, hW0⟩ : ∃ W0, wn.alloc (.cells #[.int .i64 r.code, .string r.name, .int .i64 r.form, .string r.takes, .string r.gives] 109) = W0 := ⟨_, rfl⟩
                  have hb0 : Hid (Below wr.heap.size wr W0) := by show Below _ _ _; rw [← hW0]; exact hbn.out.alloc hbn.out.size _
                  have hx0 : W0.heap[wn.heap.size]? = some (.cells #[.int .i64 r.code, .string r.name, .int .i64 r.form, .string r.takes, .string r.gives] 109 (0, 0)) := by rw [← hW0]; exact heap_alloc_new wn _
                  clear p0
                  have p0 := cell_blk hx0 0
                  have p1 := cell_blk hx0 1
                  have p2 := cell_blk hx0 2
                  have p3 := cell_blk hx0 3
                  have p4 := cell_blk hx0 4
                  simp at p0 p1 p2 p3 p4
                  have HW0 := hide hW0
                  clear hW0 hx0 HNB
                  go_upto_region 19 with fail
                  rw [HW0.out]
                  go_wp2_with fail
                  refine (HIN.out _).mono ?_; rintro e w2 ⟨A1, c1, A2, c2, rfl, ho1, ho2, hb2⟩
                  have hb02 : Hid (Below wr.heap.size wr w2) := hb0.out.trans (hb2.out.mono hb0.out.size)
                  have hs2 := hide (hs.out.below hb02.out)
                  have hx2 := hide ((hb02.out.block gs hsz).trans hx.out)
                  have hszr : wr.heap.size ≤ w2.heap.size := hb02.out.size
                  have hsz2 : base ≤ w2.heap.size := by omega
                  have hroom : Room (n + k) 1 80 := room_of (by omega) (by omega)
                  clear p0 p1 p2 p3 p4
                  go_wp2_with (at_builtin; refine wpList_push_n rfl _ _ rfl base opinfo_elem (.slice A (n + k) c) (n + k) (ys.flatMap opV) rfl w2 [.int .i64 r.code, .string r.name, .int .i64 r.form, .slice A1 r.takes.size c1, .slice A2 r.gives.size c2] 63 rfl hs2.out.own rfl rfl (by simp [Value.oneCell']) hroom hsz2 ?_; intro v' w3 ho3 hg3; have ho3' := hide ho3; have hg3' := hide hg3; clear ho3 hg3)
                  have hb3 := hg3'.out.below hsz2 (own_ge hs2.out.own)
                  obtain ⟨y, hs3⟩ := hs2.out.push r HCD.out A1 A2 c1 c2 ho3'.out
                  obtain ⟨A', c', rfl, _, _⟩ := own_form hs3.own
                  have hx3 := hide ((hg3'.out.only.block gs (by omega) (fun hm => hap.out gs (by simpa using hm) rfl)).trans hx2.out)
                  have hap3 : Hid (∀ q, (Value.slice A' (n + k + 1) c').ownBlock = some q → q ≠ gs) := fun q hq => by
                    rcases hg3'.out.lies with e1 | ⟨g2, e1, hlt3⟩
                    · rw [e1] at hq; exact hap.out q hq
                    · rw [e1] at hq; injection hq with hq; omega
                  go_roundw
                  case rel => exact ⟨k + 1, ys ++ [y], A', c', by rw [show n + (k + 1) = n + k + 1 from by omega], by go_num, by omega, by show AllS _ _ _ _ _ _; rw [HST.out, ← List.append_assoc, show n + (k + 1) = n + k + 1 from by omega]; exact hs3, hx3, hap3, (hb.out.trans (hb02.out.mono (by omega))).trans hb3, by have := hb3.size; omega⟩
                  case measure => simp [intOf] <;> omega
                · have hsl : (spanRows s).length ≤ k := by unfold spanRows; simp; omega
                  have hsf : Hid (AllS wr base (.slice A (n + k) c) (n + k) (opRows1 ++ (opRows2 ++ (opSpans.take (j + 1)).flatMap spanRows)) ys) := by
                    have h := hs.out
                    rw [List.take_of_length_le hsl, hrs.out] at h
                    show AllS _ _ _ _ _ _
                    rw [take_snoc HSP.out, List.flatMap_append]
                    simpa using h
                  have hn2 : n + k ≤ 53 + 20 * (j + 1) := by omega
                  have hszb : base ≤ wr.heap.size := by omega
                  clear hs hsl hrs hx hap p0
                  go_wp2_with fail
                  go_roundw
                  case rel => exact ⟨j + 1, n + k, ys, _, A, c, rfl, by go_num, by omega, hn2, rfl, hsf, hb, hszb⟩
                  case measure => simp [intOf] <;> omega
            · have hj8 : j = 8 := by omega
              subst hj8
              have hral : rs = allRows := by
                have := hrs.out
                rw [List.take_of_length_le (by simp [opSpans])] at this
                exact this
              subst hral
              have hn111 : n = 111 := by rw [← hs.out.len, allRows_len]
              subst hn111
              have hown := hs.out.own
              have hkey := hs.out.key
              have hyl : ys.length = 111 := by have := congrArg List.length hkey; simpa [allRows_len] using this
              obtain ⟨g, hA, hgl⟩ : ∃ g, A = some ⟨g, 0, none⟩ ∧ g < wr.heap.size := by
                rcases hown with ⟨_, ⟨_, h0⟩ | ⟨g, cap, cur, h1, _, hb2, _⟩⟩
                · omega
                · injection h1 with h1 _ _
                  exact ⟨g, h1, blk_lt hb2⟩
              subst hA
              have eg : ∀ args w, (callFunc 106 args).run Tryz.prog w = .ok (.enter 106 args) w := enters_of Tryz.func106 (by kernel_rfl) rfl
              have SRT := AnyQ.slices_SortFunc Tryz.sortInfo 5 (fun w => by exact Tryz.isAgg63 w) (fun w => by exact Tryz.sizeOf63 w) opV opV_len (fun x v hv => by simp [opV] at hv; rcases hv with rfl | rfl | rfl | rfl | rfl <;> rfl) cmpOp swoOp 106 #[] g 0 c ys.toArray wr eg (cmpLays_op g 0 _ wr) (holds_own hown hyl) hgl (by simp [hyl])
              rw [show ys.toArray.size = 111 from by simp [hyl]] at SRT
              change Calls Tryz.prog 105 _ _ _ at SRT
              have HSRT := hide SRT
              have HOWN := hide hown; have HKEY := hide hkey; have HYL := hide hyl
              clear SRT eg hown hkey hyl hs hrs
              go_wp2_with fail
              refine HSRT.out.mono ?_; rintro e w5 ⟨rfl, d, m, os, hp, _, rfl⟩
              obtain ⟨ho5, hb5⟩ := own_sorted HOWN.out d (by have := hp.1; simpa [HYL.out] using this) m os
              have hds : d.size = 111 := by have := hp.1; simpa [HYL.out] using this
              have hpm : d.toList.Perm ys := by
                have := hp.2.2
                rw [show d.extract 0 111 = d from by rw [← hds]; exact Array.extract_size, show ys.toArray.extract 0 111 = ys.toArray from by rw [← HYL.out]; simp] at this
                exact this
              obtain ⟨rs2, hr1, hr2⟩ := perm_lift (hpm.map IOp.key) allRows HKEY.out
              have HS5 : Hid (AllS (sortWorldK opV 5 wr g 0 m d os) w.heap.size (.slice (some ⟨g, 0, none⟩) 111 c) 111 rs2 d.toList) := by
                show AllS _ _ _ _ _ _
                rw [HBA.out]
                exact ⟨ho5, by rw [hr1.length_eq, allRows_len], hr2⟩
              have HB5 : Hid (Below w.heap.size w (sortWorldK opV 5 wr g 0 m d os)) := by show Below _ _ _; rw [HBA.out]; exact hb.out.trans hb5
              have HR1 := hide hr1
              generalize sortWorldK opV 5 wr g 0 m d os = w6 at HS5 HB5 ⊢
              clear hr1 hr2 hpm hds ho5 hb5 hp
              go_wp2_with fail
              go_ret
              exact ⟨_, _, _, _, rfl, HS5, HR1, HB5⟩
end Go.Proofs.YtpanlhbdphobdaaGreatDoor
