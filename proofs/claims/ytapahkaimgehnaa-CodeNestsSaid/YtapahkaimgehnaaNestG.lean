/-
  CodeNests: the law's walk.
-/
import Derived.Test.YtapahkaimgehnaaNestF
namespace Go.Proofs.Ytapahkaimgehnaa
open Go.RowKit
set_option linter.unusedVariables false

theorem CodeNests_o0 {H : Type} {enc : TypeId × Value → H} {w : World} : Opens enc Try.prog w 22 (fun s : Sl RI => [s.val]) (Sl.Ok w riD 5 56 (riOk w)) := ri_opens

/-- a span of a right list of blocks, in numbers -/
theorem span_nat {cs : List Int} {s : NS} (h : NInv cs cs.length s) (ho : s.opn = []) {j : Nat} (hj : j < s.spans.length) :
    ∃ (b e : Nat) (el : Int), s.spans[j]? = some ((b : Int), el, (e : Int)) ∧ b < e ∧ e < cs.length ∧ (∃ c, cs[b]? = some c ∧ opensC c) ∧ cs[e]? = some 11 ∧
      (el = -1 ∨ ∃ l : Nat, el = l ∧ b < l ∧ l < e ∧ cs[l]? = some 5 ∧ cs[b]? = some 4) := by
  have hs : s.spans[j]? = some s.spans[j] := List.getElem?_eq_getElem hj
  generalize s.spans[j] = x at hs
  obtain ⟨b0, el, e0⟩ := x
  obtain ⟨h1, h2, h3⟩ := h.beg j _ hs
  obtain ⟨h4, h5, h6⟩ := h.cls j _ hs (by rw [ho]; simp)
  have h7 := h.els j _ hs
  simp only at h1 h2 h3 h4 h5 h6 h7
  have code : ∀ (x : Int) (n : Nat) (v : Int), x = n → n < cs.length → codeN cs x = v → cs[n]? = some v := by
    intro x n v hx hn hv
    subst hx
    unfold codeN at hv
    rw [Int.toNat_natCast, List.getD_eq_getElem?_getD, List.getElem?_eq_getElem hn] at hv
    rw [List.getElem?_eq_getElem hn]
    exact congrArg some hv
  obtain ⟨b, rfl⟩ : ∃ b : Nat, b0 = b := ⟨b0.toNat, by omega⟩
  obtain ⟨e, rfl⟩ : ∃ b : Nat, e0 = b := ⟨e0.toNat, by omega⟩
  refine ⟨b, e, el, hs, by omega, by omega, ⟨_, code _ b _ rfl (by omega) rfl, h3⟩, code _ e _ rfl (by omega) h6, ?_⟩
  rcases h7 with h7 | ⟨g1, g2, g3, g4, g5⟩
  · exact .inl h7
  · obtain ⟨l, rfl⟩ : ∃ b : Nat, el = b := ⟨el.toNat, by omega⟩
    rcases g5 with g5 | g5
    · rw [ho] at g5; cases g5
    · exact .inr ⟨l, rfl, by omega, by omega, code _ l _ rfl (by omega) g3, code _ b _ rfl (by omega) g4⟩

/-- the code of the argument's instruction i -/
theorem code_at {w w' : World} {s : Sl RI} (h : s.Ok w riD 5 56 (riOk w)) (hb : Below w.heap.size w w') {i : Nat} {c : Int} {ad : Addr} (hat : s.at_ = some ad) (hc : (s.l.map (·.1))[i]? = some c) : w'.cell? (ad.add (i * 5)) = some (.int .i64 c) ∧ i < s.l.length := by
  have hi : i < s.l.length := by have := (List.getElem?_eq_some_iff.1 hc).1; simpa using this
  obtain ⟨ad', y, hat', hy, _, h0, _⟩ := ri_at h hb hi
  rw [hat] at hat'
  injection hat' with hat'
  subst hat'
  rw [List.getElem?_map, hy.out] at hc
  simp only [Option.map_some, Option.some.injEq] at hc
  rw [hc] at h0
  exact ⟨h0, hi⟩

theorem sp_cells {w : World} {base g n c : Nat} {ss : List (Int × Int × Int)} (h : w.ownsRow base 39 3 (.slice (some ⟨g, 0, none⟩) n c) ss.length (ss.flatMap spanD)) {j : Nat} {b el e : Int} (hj : ss[j]? = some (b, el, e)) :
    w.cell? ⟨g, j * 3, none⟩ = some (.int .i64 b) ∧ w.cell? ⟨g, j * 3 + 1, none⟩ = some (.int .i64 el) ∧ w.cell? ⟨g, j * 3 + 2, none⟩ = some (.int .i64 e) := by
  have hk : ∀ i u, i < 3 → (spanD (b, el, e))[i]? = some u → w.cell? ⟨g, j * 3 + i, none⟩ = some u := by
    intro i u hi hu
    have := h.cells (g := g) rfl (j * 3 + i) u (by rw [flatMap_get (dec := spanD) (size := 3) (fun _ => rfl) ss j i _ hj hi]; exact hu)
    rwa [show Addr.add ⟨g, 0, none⟩ (j * 3 + i) = ⟨g, j * 3 + i, none⟩ from by unfold Addr.add; split <;> simp_all] at this
  exact ⟨hk 0 _ (by omega) rfl, hk 1 _ (by omega) rfl, hk 2 _ (by omega) rfl⟩
theorem Only.cell_some {S : List Nat} {w w' : World} (ho : Only S w w') {p : Addr} {v : Value} (h : w.cell? p = some v) (hS : p.block ∉ S) : w'.cell? p = some v := by
  have hlt : p.block < w.heap.size := by
    apply Decidable.byContradiction
    intro hn
    rw [World.cell?, Array.getElem?_eq_none (by omega)] at h
    cases h
  rw [World.cell?, ho.block _ hlt hS]
  exact h

set_option maxHeartbeats 3200000 in
set_option maxRecDepth 100000 in
theorem CodeNests_walk (s : Sl RI) (w : World) (ws : s.Ok w riD 5 56 (riOk w)) :
    Calls Try.prog 3 #[s.val] w fun e w' => e = .returned (.bool true) ∧ Below w.heap.size w w' := by
  have hcap := ws.len
  have hmax := ws.cap
  unfold maxLen at hmax
  have WS := hide ws; clear ws
  unfold Sl.val
  go_enter Try.func3, Try.ntmps3
  go_wp2_with fail
  refine (great_any s w w WS (hide (Below.refl _ _))).mono ?_; rintro e w1 ⟨g, rfl, hg0, hg, hb1⟩
  by_cases hgp : 0 < g
  · clear hg hg0
    go_wp2_with fail
    refine (awakeN w1).mono ?_; rintro e w2 ⟨rfl, hb2⟩
    have HB := hide (hb1.out.trans (hb2.mono hb1.out.size))
    clear hb2
    go_wp2_with fail
    go_ret
    exact ⟨rfl, HB.out⟩
  · have hgz : g = 0 := by omega
    subst hgz
    obtain ⟨h150, hall⟩ := hg.out rfl
    have HALL := hide hall; clear hall hg hgp
    go_wp2_with fail
    refine (awakeN w1).mono ?_; rintro e w2 ⟨rfl, hb2⟩
    have HB2 := hide (hb1.out.trans (hb2.mono hb1.out.size))
    clear hb2 hb1
    go_wp2_with fail
    refine (list_any s w w2 WS HB2 h150 HALL).mono ?_; rintro e w3 ⟨v3, xs, rfl, ho3, hx3, h13, hb3⟩
    have HB3 := hide (HB2.out.trans (hb3.out.mono HB2.out.size))
    obtain ⟨A3, c3, rfl, _, _⟩ := own_form ho3.out
    have hxl : xs.length = s.l.length := by have := congrArg List.length hx3.out; simpa using this
    have hIL : Hid (IL w3 A3 xs.length xs (s.l.map (·.1))) := ⟨Reads.of_own ho3.out, rfl, hx3.out, fun c hc => by
      obtain ⟨y, hy, rfl⟩ := List.mem_map.1 hc
      exact i64_bd (WS.out.all y hy).1, h13.out⟩
    have HSP := hide (spans_any A3 xs.length c3 w3 xs (s.l.map (·.1)) hIL (by omega))
    have HXL := hide hxl
    clear hIL ho3 hx3 h13 hxl
    obtain ⟨pl, en, sf, hE⟩ : ∃ pl en sf, goN (s.l.map (·.1)) (s.l.map (·.1)) 0 initN = (pl, en, sf) := ⟨_, _, _, rfl⟩
    rw [hE] at HSP
    have HE := hide hE; clear hE
    go_wp2_with fail
    refine HSP.out.mono ?_; rintro e w4 ⟨v4, ss, rfl, hss, ho4, hb4⟩
    have HB4 := hide (HB3.out.trans (hb4.out.mono HB3.out.size))
    have hss' := hss.out
    simp only at hss'
    by_cases hen : en = 0
    · subst hen
      rw [if_pos rfl] at hss'
      subst hss'
      have hinv := goN_inv (s.l.map (·.1)) (s.l.map (·.1)) 0 initN rfl (NInv.init _) (by rw [HE.out])
      rw [HE.out] at hinv
      obtain ⟨hinv, hclo⟩ := hinv
      have hopn := hinv.clo hclo
      have HINV := hide hinv; clear hinv hclo
      have HOPN := hide hopn; clear hopn
      obtain ⟨A4, c4, rfl, hk1, hk2⟩ := own_form ho4.out
      simp only [if_true]
      have hspl : sf.spans.length ≤ s.l.length := by
        rw [HINV.out.cnt]
        exact Nat.le_trans (List.length_filter_le _ _) (by simp)
      clear hss
      go_wp2_with fail
      go_loop [6, 7] (fun o i => ∃ k : Nat, i = .int .i64 k ∧ k ≤ s.l.length ∧ o = .int .i64 (((s.l.map (·.1)).take k).filter (fun c => decide (opensC c))).length) (fun _ i => s.l.length - (intOf i).toNat)
      case atStart => exact ⟨0, rfl, by omega, rfl⟩
      case round =>
        obtain ⟨k, rfl, hk, rfl⟩ := hrel
        have hfl := List.length_filter_le (fun c => decide (opensC c)) ((s.l.map (·.1)).take k)
        rw [List.length_take, List.length_map] at hfl
        obtain ⟨q, hq⟩ : ∃ q, (((s.l.map (·.1)).take k).filter (fun c => decide (opensC c))).length = q := ⟨_, rfl⟩
        rw [hq] at hfl ⊢
        have HQ := hide hq; clear hq
        by_cases hlt : k < s.l.length
        · obtain ⟨c, hc⟩ : ∃ c, (s.l.map (·.1))[k]? = some c := ⟨_, List.getElem?_eq_getElem (by simpa using hlt)⟩
          obtain ⟨ad, y, hat, hy, hok, hyy⟩ := ri_at WS.out HB4.out hlt
          clear hyy
          obtain ⟨hcell, _⟩ := code_at WS.out HB4.out hat hc
          have hcy : c = y.1 := by rw [List.getElem?_map, hy.out] at hc; simpa using hc.symm
          obtain ⟨hb1, hb2⟩ := i64_bd hok.out.1
          rw [← hcy] at hb1 hb2
          clear hcy
          rw [hat]
          have HAT := hide hat; clear hat
          have hnext : (((s.l.map (·.1)).take (k + 1)).filter (fun c => decide (opensC c))).length = q + if opensC c then 1 else 0 := by
            rw [List.take_add_one, hc, List.filter_append, List.length_append, HQ.out]
            by_cases ho : opensC c <;> simp [ho]
          clear hc
          have HN := hide hnext; clear hnext
          by_cases ho : opensC c
          · have hn : Hid ((((s.l.map (·.1)).take (k + 1)).filter (fun c => decide (opensC c))).length = q + 1) := by show _ = _; rw [HN.out, if_pos ho]
            have d1 : decide ((2 : Int) ≤ c) = true := by unfold opensC at ho; simp; omega
            have d2 : decide (c ≤ 4) = true := by unfold opensC at ho; simp; omega
            clear ho HN
            go_wp2_with fail
            go_round
            case rel => exact ⟨k + 1, by go_num, by omega, by rw [hn.out]; go_num⟩
            case measure => simp [intOf] <;> omega
          · have hn : Hid ((((s.l.map (·.1)).take (k + 1)).filter (fun c => decide (opensC c))).length = q) := by show _ = _; rw [HN.out, if_neg ho]; rfl
            have hc2 : c < 2 ∨ 4 < c := by unfold opensC at ho; omega
            clear ho HN
            by_cases hc3 : c < 2
            · have d1 : decide ((2 : Int) ≤ c) = false := by simp; omega
              clear hc2 hc3
              go_wp2_with fail
              go_round
              case rel => exact ⟨k + 1, by go_num, by omega, by rw [hn.out]⟩
              case measure => simp [intOf] <;> omega
            · have d1 : decide ((2 : Int) ≤ c) = true := by simp; omega
              have d2 : decide (c ≤ 4) = false := by simp; omega
              clear hc2 hc3
              go_wp2_with fail
              go_round
              case rel => exact ⟨k + 1, by go_num, by omega, by rw [hn.out]⟩
              case measure => simp [intOf] <;> omega
        · have hkk : k = s.l.length := by omega
          have hqn : Hid (q = sf.spans.length) := by
            show _ = _
            rw [← HQ.out, HINV.out.cnt, hkk, List.length_map]
          clear hlt hfl
          go_wp2_with fail
          go_loopw [8] (fun i w1 => ∃ k : Nat, i = .int .i64 k ∧ k ≤ sf.spans.length ∧ Hid (Only [] w4 w1)) (fun i _ => sf.spans.length - (intOf i).toNat)
          case atStart => exact ⟨0, rfl, by omega, Only.refl _ _⟩
          case round =>
            obtain ⟨k, rfl, hk, hoW⟩ := hrel
            by_cases hlt : k < sf.spans.length
            · obtain ⟨b, e, el, hsp, hbe, hel, ⟨c, hcb, hco⟩, hce, helse⟩ := span_nat HINV.out HOPN.out hlt
              obtain ⟨g4, cp4, hv4, _, _⟩ := ho4.out.form (by omega)
              injection hv4 with hv4 _ hv5
              subst hv4
              subst hv5
              have HBW := hide (HB4.out.trans (hoW.out.below HB4.out.size (by simp)))
              have hownW := hide (own_only3 ho4.out hoW.out (by simp))
              obtain ⟨x0, x1, x2⟩ := sp_cells hownW.out hsp
              have hlen : s.l.length = (s.l.map (·.1)).length := by simp
              obtain ⟨ad, y0, hat, hy0⟩ := ri_at WS.out HBW.out (i := b) (by omega)
              clear hy0
              obtain ⟨W5, hW5⟩ : ∃ W5, wr.alloc (.cells #[.int .i64 (b : Int), .int .i64 el, .int .i64 (e : Int)] 39) = W5 := ⟨_, rfl⟩
              have ho5 : Only [] wr W5 := by rw [← hW5]; exact Only.alloc _ _ _
              have HO5 := hide (hoW.out.trans ho5)
              have HB5 := hide (HB4.out.trans (HO5.out.below HB4.out.size (by simp)))
              have hown5 := hide (own_only3 ho4.out HO5.out (by simp))
              have hx5 : W5.heap[wr.heap.size]? = some (.cells #[.int .i64 (b : Int), .int .i64 el, .int .i64 (e : Int)] 39 (0, 0)) := by rw [← hW5]; exact heap_alloc_new wr _
              obtain ⟨gx, hgx⟩ : ∃ gx, wr.heap.size = gx := ⟨_, rfl⟩
              rw [hgx] at hx5
              have HX5 := hide hx5; clear hx5
              have y0 : W5.cell? ⟨gx, 0, none⟩ = some (.int .i64 (b : Int)) := cell_blk HX5.out 0
              have y1 : W5.cell? ⟨gx, 1, none⟩ = some (.int .i64 el) := cell_blk HX5.out 1
              have y2 : W5.cell? ⟨gx, 2, none⟩ = some (.int .i64 (e : Int)) := cell_blk HX5.out 2
              obtain ⟨cb, _⟩ := code_at WS.out HB5.out hat hcb
              obtain ⟨ce, _⟩ := code_at WS.out HB5.out hat hce
              have hel' : e < s.l.length := by omega
              have hbl : b < s.l.length := by omega
              have d1 : decide (c < 2) = false := by unfold opensC at hco; simp; omega
              have d2 : decide ((4 : Int) < c) = false := by unfold opensC at hco; simp; omega
              have hcase : (el = -1) ∨ ∃ l : Nat, el = l ∧ b < l ∧ l < e ∧ c = 4 ∧ W5.cell? (ad.add (l * 5)) = some (.int .i64 5) := by
                rcases helse with h | ⟨l, h1, h2, h3, h4, h5⟩
                · exact .inl h
                · exact .inr ⟨l, h1, h2, h3, by rw [hcb] at h5; injection h5, (code_at WS.out HB5.out hat h4).1⟩
              rw [hat]
              have HAT := hide hat; clear hat
              have HSP := hide hsp
              clear hlen hel hcb hce hco helse
              have HW5 := hide hW5; clear hW5
              have HGX := hide hgx; clear hgx
              go_upto_region 16 with fail
              rw [HW5.out, HGX.out]
              rcases hcase with rfl | ⟨l, rfl, hl1, hl2, rfl, cl⟩
              · go_wp2_with fail
                go_loopw [10] (fun j w1 => ∃ q5 : Nat, j = .int .i64 q5 ∧ q5 ≤ k ∧ Hid (Only [] W5 w1)) (fun j _ => k - (intOf j).toNat)
                case atStart => exact ⟨0, rfl, by omega, Only.refl _ _⟩
                case round =>
                  obtain ⟨q5, rfl, hq5, hoV⟩ := hrel
                  by_cases hq6 : q5 < k
                  · obtain ⟨yb, ye, yl, hys, hybe, _, _, _, _⟩ := span_nat HINV.out HOPN.out (j := q5) (by omega)
                    have hinc := HINV.out.inc q5 k _ _ hq6 hys HSP.out
                    have hnest := HINV.out.nest q5 k _ _ hq6 hys HSP.out (by rw [HOPN.out]; simp)
                    simp only at hinc hnest
                    have hnest' : ye < b ∨ e < ye := by
                      rcases hnest with h | ⟨_, h⟩ <;> omega
                    clear hnest
                    have hownV := hide (own_only3 hown5.out hoV.out (by simp))
                    obtain ⟨s0, s1, s2⟩ := sp_cells hownV.out hys
                    have v0 := hoV.out.cell_some y0 (by simp)
                    have v1 := hoV.out.cell_some y1 (by simp)
                    have v2 := hoV.out.cell_some y2 (by simp)
                    have HYS := hide hys; clear hys
                    have hq7 : q5 < sf.spans.length := by omega
                    have f1 : decide ((b : Int) ≤ (yb : Int)) = false := by simp; omega
                    have f1' : decide (b ≤ yb) = false := by simp; omega
                    clear hinc
                    rcases hnest' with hn | hn
                    · have f2 : decide ((b : Int) < (ye : Int)) = false := by simp; omega
                      have f2' : decide (b < ye) = false := by simp; omega
                      go_wp2_with fail
                      go_quiet (fail)
                      rename_i nq
                      have hoq := hide (hoV.out.trans (Only.drewN [] _ nq))
                      go_wp2_with fail
                      go_roundw
                      case rel => exact ⟨q5 + 1, by go_num, by omega, hoq⟩
                      case measure => simp [intOf] <;> omega
                    · have f2 : decide ((ye : Int) ≤ (e : Int)) = false := by simp; omega
                      have f2' : decide (ye ≤ e) = false := by simp; omega
                      have hbye : b < ye := by omega
                      have f3 : decide ((b : Int) < (ye : Int)) = true := by simp; omega
                      have f3' : decide (b < ye) = true := by simp; omega
                      go_wp2_with fail
                      go_quiet (fail)
                      rename_i nq
                      have hoq := hide (hoV.out.trans (Only.drewN [] _ nq))
                      go_wp2_with fail
                      go_roundw
                      case rel => exact ⟨q5 + 1, by go_num, by omega, hoq⟩
                      case measure => simp [intOf] <;> omega
                  · have hqk : q5 = k := by omega
                    have hoE := hide (HO5.out.trans hoV.out)
                    clear hq6
                    go_wp2_with fail
                    go_roundw
                    case rel => exact ⟨k + 1, by go_num, by omega, hoE⟩
                    case measure => simp [intOf] <;> omega
              · have hl3 : l < s.l.length := by omega
                clear d1 d2
                go_wp2_with fail
                go_loopw [10] (fun j w1 => ∃ q5 : Nat, j = .int .i64 q5 ∧ q5 ≤ k ∧ Hid (Only [] W5 w1)) (fun j _ => k - (intOf j).toNat)
                case atStart => exact ⟨0, rfl, by omega, Only.refl _ _⟩
                case round =>
                  obtain ⟨q5, rfl, hq5, hoV⟩ := hrel
                  by_cases hq6 : q5 < k
                  · obtain ⟨yb, ye, yl, hys, hybe, _, _, _, _⟩ := span_nat HINV.out HOPN.out (j := q5) (by omega)
                    have hinc := HINV.out.inc q5 k _ _ hq6 hys HSP.out
                    have hnest := HINV.out.nest q5 k _ _ hq6 hys HSP.out (by rw [HOPN.out]; simp)
                    simp only at hinc hnest
                    have hnest' : ye < b ∨ e < ye := by
                      rcases hnest with h | ⟨_, h⟩ <;> omega
                    clear hnest
                    have hownV := hide (own_only3 hown5.out hoV.out (by simp))
                    obtain ⟨s0, s1, s2⟩ := sp_cells hownV.out hys
                    have v0 := hoV.out.cell_some y0 (by simp)
                    have v1 := hoV.out.cell_some y1 (by simp)
                    have v2 := hoV.out.cell_some y2 (by simp)
                    have HYS := hide hys; clear hys
                    have hq7 : q5 < sf.spans.length := by omega
                    have f1 : decide ((b : Int) ≤ (yb : Int)) = false := by simp; omega
                    have f1' : decide (b ≤ yb) = false := by simp; omega
                    clear hinc
                    rcases hnest' with hn | hn
                    · have f2 : decide ((b : Int) < (ye : Int)) = false := by simp; omega
                      have f2' : decide (b < ye) = false := by simp; omega
                      go_wp2_with fail
                      go_quiet (fail)
                      rename_i nq
                      have hoq := hide (hoV.out.trans (Only.drewN [] _ nq))
                      go_wp2_with fail
                      go_roundw
                      case rel => exact ⟨q5 + 1, by go_num, by omega, hoq⟩
                      case measure => simp [intOf] <;> omega
                    · have f2 : decide ((ye : Int) ≤ (e : Int)) = false := by simp; omega
                      have f2' : decide (ye ≤ e) = false := by simp; omega
                      have hbye : b < ye := by omega
                      have f3 : decide ((b : Int) < (ye : Int)) = true := by simp; omega
                      have f3' : decide (b < ye) = true := by simp; omega
                      go_wp2_with fail
                      go_quiet (fail)
                      rename_i nq
                      have hoq := hide (hoV.out.trans (Only.drewN [] _ nq))
                      go_wp2_with fail
                      go_roundw
                      case rel => exact ⟨q5 + 1, by go_num, by omega, hoq⟩
                      case measure => simp [intOf] <;> omega
                  · have hqk : q5 = k := by omega
                    have hoE := hide (HO5.out.trans hoV.out)
                    clear hq6
                    go_wp2_with fail
                    go_roundw
                    case rel => exact ⟨k + 1, by go_num, by omega, hoE⟩
                    case measure => simp [intOf] <;> omega
            · have hkk : k = sf.spans.length := by omega
              have hqq := hqn.out
              subst hqq
              clear hlt
              have HBE := hide (HB4.out.trans (hoW.out.below HB4.out.size (by simp)))
              go_wp2_with fail
              go_ret
              exact ⟨rfl, HBE.out⟩
    · rw [if_neg hen] at hss'
      subst hss'
      obtain ⟨A4, c4, rfl, _, _⟩ := own_form ho4.out
      have f0 : ((en : Int) == 0) = false := by simp; omega
      have f1 : ((en : Int) != 0) = true := by simp; omega
      rw [if_neg hen]
      clear hen hss
      go_wp2_with fail
      go_ret
      exact ⟨rfl, HB4.out⟩
end Go.Proofs.Ytapahkaimgehnaa
