/-
  host: a text's rule: contract.
-/
import Derived.Test.YtnfaaiifbiobiaaDoorHostH
namespace Go.Proofs.YtnfaaiifbiobiaaDoor
open Go.RowKit
set_option linter.unusedVariables false

theorem print_any (r : HR) (w : World) (hm : r.m.length ≤ 9223372036854775807) (hn : r.n.length ≤ 9223372036854775807) (hw : r.word ≤ 18446744073709551615) (ht : Hid (LaidC w)) :
    Calls Tryd.prog 32 #[.agg #[.string ⟨r.m.toArray⟩, .string ⟨r.n.toArray⟩, .int .i64 r.way, .int .u64 (r.word : Int)]] w (SaysP w (printH r)) := by
  cases hq : rightH r with
  | true => exact print_yes r w hw hq ht
  | false =>
    have : printH r = [] := by unfold printH; rw [hq]; rfl
    rw [this]
    exact print_no r w hm hn hw hq
theorem split_any (s : List UInt8) (W : World) (hl : s.length ≤ 1000) (ht : Hid (LaidH W)) : Calls Tryd.prog 28 #[.string ⟨s.toArray⟩, .string ⟨#[32]⟩] W fun e w' => e = .returned (.slice (some ⟨W.heap.size, 0, none⟩) (wordsS s).length (wordsS s).length) ∧ w' = W.alloc (.cells ((wordsS s).map S).toArray 9) := by
  obtain ⟨m, hm⟩ := ht.out.ml
  have h := Tryd.strings_Split ⟨s.toArray⟩ ⟨#[32]⟩ m W (by show s.length < _; omega) hm (by decide)
  have h2 := Lib.splitB_data ⟨#[32]⟩ 0 (Lib.countB ⟨s.toArray⟩ ⟨#[32]⟩) ⟨s.toArray⟩
  have e : Lib.countB ⟨s.toArray⟩ ⟨#[32]⟩ = s.count 32 := Lib.count_one _ _
  have h1 := Lib.splitB_all ⟨#[32]⟩ (by decide) 0 _ ⟨s.toArray⟩ rfl
  rw [words_back, ← h1, h2, e] at h
  have h3 := congrArg List.length h2
  rw [List.length_map, e] at h3
  rw [h3] at h
  exact h
section
variable {P : Program} {o : Oper} {ρ : Operand → Value} {W W' : World} {post : Value → World → Prop} {v : Value}
theorem OpOut.alloc {t : TypeId} (ho : o.op = .alloc t) (hr : (Instr.alloc t true (.tuple #[])).run P W = .ok v W') (h : post v W') : OpOut P o ρ W post :=
  ⟨by unfold execOp; rw [ho]; simp only [Sem.run_bind, Sem.run_pure, hr, Result.andThen_ok]; exact h⟩
theorem OpOut.indexAddr {t : TypeId} {x y : Operand} {a b : Value} (ho : o.op = .indexAddr t x y) (hx : ρ x = a) (hy : ρ y = b) (hr : (Instr.indexAt t a b).run P W = .ok v W) (h : post v W) : OpOut P o ρ W post :=
  ⟨by unfold execOp; rw [ho]; simp only [hx, hy, Sem.run_bind, Sem.run_pure, hr, Result.andThen_ok]; exact h⟩
end
section
variable {P : Program} {o : Oper} {ρ : Operand → Value} {W W' : World} {post : Value → World → Prop} {v : Value}
theorem OpOut.sliceAll {t : TypeId} {x : Operand} {a : Value} (ho : o.op = .slice t x none none none) (hx : ρ x = a) (hr : (Instr.sliceAt t a none none none).run P W = .ok v W) (h : post v W) : OpOut P o ρ W post :=
  ⟨by unfold execOp; rw [ho]; simp only [hx, Option.map_none, Sem.run_bind, Sem.run_pure, hr, Result.andThen_ok]; exact h⟩
theorem OpOut.max2 {x y : Operand} {ts : Array TypeId} {k : IntKind} {a b : Int} (ho : o.op = .call { callee := .builtin .max, args := #[x, y], argTypes := ts }) (hx : ρ x = .int k a) (hy : ρ y = .int k b) (h : post (.int k (if b > a then b else a)) W) : OpOut P o ρ W post :=
  ⟨by unfold execOp; simp only [ho, resolve, invoke, builtin, Sem.run_bind, Sem.run_pure, Result.andThen_ok, List.map_toArray, List.map_cons, List.map_nil, hx, hy, run_max_int2]; exact h⟩
end
def namesB : List ByteArray := namesL.map fun l => (⟨l.toArray⟩ : ByteArray)
/-- what Parse answers -/
def ParseHP (s : List UInt8) (w : World) (e : Ending) (w' : World) : Prop :=
  e = .returned (if okH s then .tuple #[.agg #[S (parseH s).m, S (parseH s).n, .int .i64 (parseH s).way, .int .u64 ((parseH s).word : Int)], .int .i64 0] else .tuple #[.agg #[S [], S [], .int .i64 0, .int .u64 0], .int .i64 4]) ∧ Hid (Below w.heap.size w w')

set_option maxRecDepth 100000 in
set_option maxHeartbeats 1600000 in
theorem parseH_any (s : List UInt8) (w : World) (hl : s.length ≤ 300) (ht : Hid (LaidH w)) :
    Calls Tryd.prog 14 #[.string ⟨s.toArray⟩] w (ParseHP s w) := by
  obtain ⟨b, hb⟩ : ∃ b, w.heap.size = b := ⟨_, rfl⟩
  obtain ⟨w1, hw1⟩ : ∃ x, w.alloc (.cells #[.string ⟨#[]⟩, .string ⟨#[]⟩, .int .i64 0, .int .u64 0] 28) = x := ⟨_, rfl⟩
  have hB1 : Below w.heap.size w w1 := by rw [← hw1]; exact (Below.refl _ _).alloc (Nat.le_refl _) _
  have hx1 : w1.heap[b]? = some (.cells #[.string ⟨#[]⟩, .string ⟨#[]⟩, .int .i64 0, .int .u64 0] 28 (0, 0)) := by rw [← hw1, ← hb]; exact heap_alloc_new w _
  have hz1 : w1.heap.size = b + 1 := by rw [← hw1, ← hb]; simp
  have hSP := split_any s w1 (by omega) (hide (ht.out.below hB1))
  obtain ⟨ws, hws⟩ : ∃ ws, wordsS s = ws := ⟨_, rfl⟩
  obtain ⟨n, hn⟩ : ∃ n, ws.length = n := ⟨_, rfl⟩
  have hnl : n ≤ 1000 := by rw [← hn, ← hws, wordsS_len]; have := List.count_le_length (a := (32 : UInt8)) (l := s); omega
  obtain ⟨w2, hw2⟩ : ∃ x, w1.alloc (.cells (ws.map S).toArray 9) = x := ⟨_, rfl⟩
  have hB2 : Below w1.heap.size w1 w2 := by rw [← hw2]; exact (Below.refl _ _).alloc (Nat.le_refl _) _
  have hx2 : w2.heap[b + 1]? = some (.cells (ws.map S).toArray 9 (0, 0)) := by rw [← hw2, ← hz1]; exact heap_alloc_new w1 _
  have hz2 : w2.heap.size = b + 2 := by rw [← hw2]; simp [hz1]
  rw [hws, hw2, hn, hz1] at hSP
  obtain ⟨w3, hw3⟩ : ∃ x, w2.alloc (.cells #[.string ⟨#[]⟩, .string ⟨#[]⟩, .string ⟨#[]⟩] 9) = x := ⟨_, rfl⟩
  have hB3 : Below w2.heap.size w2 w3 := by rw [← hw3]; exact (Below.refl _ _).alloc (Nat.le_refl _) _
  have hz3 : w3.heap.size = b + 3 := by rw [← hw3]; simp [hz2]
  have hr3 : Hid (Reads w3 (b + 3) 1 (some ⟨b + 2, 0, none⟩) 3 [.string ⟨#[]⟩, .string ⟨#[]⟩, .string ⟨#[]⟩]) := by
    have := Reads.of_new w2 [.string ⟨#[]⟩, .string ⟨#[]⟩, .string ⟨#[]⟩] 9 3 rfl
    rw [hz2, hw3] at this
    exact this
  have ho3 : Hid (w3.ownsRow (b + 1) 9 1 (.slice (some ⟨b + 1, 0, none⟩) n n) n (ws.map S)) := by
    exact own_of_blk (base := b + 1) (by rw [List.length_map]; exact hn) (Nat.le_refl _) ((hB3.block (b + 1) (by omega)).trans hx2) (by omega)
  have hx3 : w3.heap[b]? = some (.cells #[.string ⟨#[]⟩, .string ⟨#[]⟩, .int .i64 0, .int .u64 0] 28 (0, 0)) := (hB3.block b (by omega)).trans ((hB2.block b (by omega)).trans hx1)
  have hBw3 : Below w.heap.size w w3 := (hB1.trans (hB2.mono (by omega))).trans (hB3.mono (by omega))
  have hroom : Room n 3 16 := room_of (by omega) (by omega)
  have hS1 : ∀ u ∈ ([.string ⟨#[]⟩, .string ⟨#[]⟩, .string ⟨#[]⟩] : List Value), u.oneCell' = true := by intro u hu; simp at hu; subst hu; rfl
  have HSP := hide hSP; have HW1 := hide hw1; have HW3 := hide hw3; have HB := hide hb; have HX3 := hide hx3; have HBW3 := hide hBw3; have HZ3 := hide hz3; have HZ2 := hide hz2; have HZ1 := hide hz1
  have HWS := hide hws; have HN := hide hn; have HS1 := hide hS1
  clear hb hw1 hB1 hx1 hz1 hSP hws hn hw2 hB2 hx2 hz2 hw3 hB3 hz3 hx3 hBw3 hS1
  go_enter Tryd.func14, Tryd.ntmps14
  go_upto_region 1 with fail
  rw [HW1.out, HB.out]
  go_wp2_with fail
  refine HSP.out.mono ?_; rintro e w2' ⟨rfl, rfl⟩
  have hsz3 : b + 1 ≤ w3.heap.size := by have := HZ3.out; omega
  go_wp2_with (at_builtin; rw [HZ2.out, HW3.out]; refine wpList_append_any rfl _ _ rfl (b + 1) str_elem (.slice (some ⟨b + 1, 0, none⟩) n n) n (ws.map S) rfl ho3.out (b + 3) (some ⟨b + 2, 0, none⟩) 3 3 [.string ⟨#[]⟩, .string ⟨#[]⟩, .string ⟨#[]⟩] rfl hr3.out HS1.out hroom hsz3 ?_; intro v' w4 ho' hg')
  have hlist : (ws.map S ++ [.string ⟨#[]⟩, .string ⟨#[]⟩, .string ⟨#[]⟩] : List Value) = (wordsP s).map S := by
    unfold wordsP
    rw [HWS.out, List.map_append]
    rfl
  rw [hlist] at ho'
  obtain ⟨ps, hps⟩ : ∃ ps, wordsP s = ps := ⟨_, rfl⟩
  have hpl : ps.length = n + 3 := by rw [← hps]; unfold wordsP; rw [HWS.out, List.length_append, HN.out]; rfl
  have hpa : ∀ x ∈ ps, x.length ≤ 300 := by intro x hx; rw [← hps] at hx; have := wordsP_all hx; omega
  rw [hps] at ho'
  obtain ⟨A2, c2, hv2, hc2, _⟩ := own_form ho'
  subst hv2
  obtain ⟨g4, hA2⟩ : ∃ g2, A2 = some ⟨g2, 0, none⟩ := by
    obtain ⟨g2, cap, hv, _⟩ := ho'.form (by omega)
    injection hv with hv
    exact ⟨g2, hv⟩
  subst hA2
  have hcell : ∀ j x, ps[j]? = some x → w4.cell? ⟨g4, j, none⟩ = some (S x) := by
    intro j x hx
    have hc := ho'.cells (g := g4) rfl j (S x) (by rw [List.getElem?_map, hx]; rfl)
    rw [show (⟨g4, 0, none⟩ : Addr).add j = ⟨g4, j, none⟩ from by unfold Addr.add; split <;> simp_all] at hc
    exact hc
  have hg4 : g4 < w4.heap.size := (ho'.lt g4 rfl).2
  have hB34 : Below (b + 1) w3 w4 := (Below.refl _ _).grown hg'.by_ hsz3 (own_ge ho3.out)
  have hx4 : w4.heap[b]? = some (.cells #[.string ⟨#[]⟩, .string ⟨#[]⟩, .int .i64 0, .int .u64 0] 28 (0, 0)) := (hB34.block b (by omega)).trans HX3.out
  have hBw4 : Below b w w4 := by
    have h1 := HBW3.out
    rw [HB.out] at h1
    exact h1.trans (hB34.mono (by omega))
  have hb4 : b < w4.heap.size := blk_lt hx4
  have HC4 := hide hcell; have HG4 := hide hg4; have HX4 := hide hx4; have HBW4 := hide hBw4; have HB4 := hide hb4; have HPL := hide hpl; have HPA := hide hpa; have HPS := hide hps
  have hN4 : 4 ≤ n + 3 := by have := wordsP_len s; rw [hps, hpl] at this; exact this
  clear hcell hg4 hx4 hBw4 hb4 hpl hpa hps hB34 ho' hg' hlist hsz3 ho3 hr3 HS1 HX3 HBW3 HZ3 HZ2 HZ1 HW1 HW3 hroom HSP hc2 HWS HN hnl
  generalize n + 3 = N at *
  have HNM := hide (names_any w4)
  go_wp2_with fail
  refine HNM.out.mono ?_; rintro e w5 ⟨rfl, h5⟩
  simp only [namesV, S]
  obtain ⟨b5, hb5⟩ : ∃ x, w5.heap.size = x := ⟨_, rfl⟩
  obtain ⟨w6, hw6⟩ : ∃ x, w5.alloc (.cells #[.string ⟨#[110, 111, 110, 101]⟩, .string ⟨#[99, 111, 110, 115, 116]⟩, .string ⟨#[115, 117, 109]⟩, .string ⟨#[99, 111, 117, 110, 116]⟩, .string ⟨#[108, 97, 115, 116]⟩] 75) = x := ⟨_, rfl⟩
  have hB56 : Below w5.heap.size w5 w6 := by rw [← hw6]; exact (Below.refl _ _).alloc (Nat.le_refl _) _
  have hx6n : w6.heap[b5]? = some (.cells namesV.toArray 75 (0, 0)) := by rw [← hw6, ← hb5]; exact heap_alloc_new w5 _
  have hB46 : Below w4.heap.size w4 w6 := h5.out.trans (hB56.mono h5.out.size)
  have HX6 := hide ((hB46.block b HB4.out).trans HX4.out)
  have HBW6 := hide (HBW4.out.trans (hB46.mono (Nat.le_of_lt HB4.out)))
  have HC6 : Hid (∀ j x, ps[j]? = some x → w6.cell? ⟨g4, j, none⟩ = some (S x)) := fun j x hx => (hB46.cell (p := ⟨g4, j, none⟩) HG4.out).trans (HC4.out j x hx)
  have HG6 : Hid (g4 < w6.heap.size) := Nat.lt_of_lt_of_le HG4.out hB46.size
  have HN6 := hide hx6n; have HW6 := hide hw6; have HB5 := hide hb5
  obtain ⟨x3, hx3⟩ : ∃ x, ps[3]? = some x := ⟨_, List.getElem?_eq_getElem (by have := HPL.out; omega)⟩
  have hl3 := HPA.out x3 (List.mem_of_getElem? hx3)
  have c3 := HC6.out 3 x3 hx3
  have HX3 := hide hx3
  have HPA6 : Hid (Calls Tryd.prog 30 #[.int .i64 64, .string ⟨x3.toArray⟩] w6 fun e w' => ∃ er : Int, e = .returned (.tuple #[.int .u64 ((parseF 64 x3).getD 0 : Nat), .int .i64 er]) ∧ Below w6.heap.size w6 w') :=
    (parse_any 64 (.inr rfl) x3 w6 (by omega) (hide ((LaidH.below ht.out (by rw [HB.out]; exact HBW6.out)).c))).mono (by rintro e w' ⟨h1, h2⟩; exact ⟨_, h1, h2⟩)
  have hwd : (parseF 64 x3).getD 0 ≤ 18446744073709551615 := by
    cases h : parseF 64 x3 with
    | none => simp
    | some v => exact parseF_le h
  have HWD : Hid ((parseF 64 x3).getD 0 = (parseF 64 x3).getD 0) := rfl
  clear hB56 hx6n hB46 hw6 hb5 h5 hx3 HC4 HG4 HX4 HBW4 HB4 HNM hl3
  go_upto_region 3 with fail
  rw [HW6.out, HB5.out]
  go_wp2_with fail
  refine HPA6.out.mono ?_; rintro e w7 ⟨er, rfl, h7⟩
  go_upto_region 4 with fail
  obtain ⟨v, hv⟩ : ∃ v, (parseF 64 x3).getD 0 = v := ⟨_, rfl⟩
  rw [hv] at hwd ⊢
  have HV := hide hv
  obtain ⟨x0, hx0⟩ : ∃ x, ps[0]? = some x := ⟨_, List.getElem?_eq_getElem (by have := HPL.out; omega)⟩
  obtain ⟨x1, hx1⟩ : ∃ x, ps[1]? = some x := ⟨_, List.getElem?_eq_getElem (by have := HPL.out; omega)⟩
  obtain ⟨x2, hx2⟩ : ∃ x, ps[2]? = some x := ⟨_, List.getElem?_eq_getElem (by have := HPL.out; omega)⟩
  have HX0 := hide hx0; have HX1 := hide hx1; have HX2 := hide hx2
  have HX7 := hide ((h7.block b (blk_lt HX6.out)).trans HX6.out)
  have HBW7 := hide (HBW6.out.trans (h7.mono (Nat.le_of_lt (blk_lt HX6.out))))
  have HC7 : Hid (∀ W, grew w7 W → ∀ j x, ps[j]? = some x → W.cell? ⟨g4, j, none⟩ = some (S x)) := fun W hW j x hx => (hW.cell (p := ⟨g4, j, none⟩) (Nat.lt_of_lt_of_le HG6.out h7.size)).trans ((h7.cell (p := ⟨g4, j, none⟩) HG6.out).trans (HC6.out j x hx))
  have HN7 := hide ((h7.block b5 (blk_lt HN6.out)).trans HN6.out)
  have HNC : Hid (∀ W, grew w7 W → ∀ j, j < namesB.length → W.cell? ⟨b5, 0 + j, none⟩ = some (.string (namesB.getD j ByteArray.empty))) := by
    show ∀ W, _
    intro W hW j hj
    rw [Nat.zero_add, cell_blk ((hW.block b5 (blk_lt HN7.out)).trans HN7.out) j]
    match j, hj with
    | 0, _ => rfl
    | 1, _ => rfl
    | 2, _ => rfl
    | 3, _ => rfl
    | 4, _ => rfl
    | j + 5, hj => exact absurd hj (by simp [namesB, namesL])
  have hbz : b < w7.heap.size := blk_lt HX7.out
  have HBZ := hide hbz
  have hr : Hid (parseH s = ⟨x0, x1, wayOf x2, v⟩) := by
    show _ = _
    unfold parseH
    rw [HPS.out]
    simp only [List.getD_eq_getElem?_getD, hx0, hx1, hx2, HX3.out, Option.getD_some, hv]
  clear hv hx0 hx1 hx2 h7 HPA6 c3 HC6 HG6 HN6 HX6 HBW6 HW6 HB5 hbz HWD HN7
  refine wp_region_last (l := [_, _, _, _, _, _, _, _, _, _, _, _, _, _, _]) (o := _) grew_ext (factsOf [fun yy _ => yy = .slice (some ⟨g4, 0, none⟩) N c2,
    fun yy _ => yy = .pointer (some ⟨g4, 0, none⟩),
    fun yy _ => yy = S x0,
    fun yy _ => yy = .slice (some ⟨g4, 0, none⟩) N c2,
    fun yy _ => yy = .pointer (some ⟨g4, 1, none⟩),
    fun yy _ => yy = S x1,
    fun yy _ => yy = .slice (some ⟨b5, 0, none⟩) 5 5,
    fun yy _ => yy = .slice (some ⟨g4, 0, none⟩) N c2,
    fun yy _ => yy = .pointer (some ⟨g4, 2, none⟩),
    fun yy _ => yy = S x2,
    fun yy _ => yy = .int .i64 (Lib.idxOfS namesB ⟨x2.toArray⟩),
    fun yy _ => yy = .int .i64 (wayOf x2),
    fun yy _ => yy = .int .u64 (v : Int),
    fun yy _ => yy = .agg #[.string ⟨x0.toArray⟩, .string ⟨x1.toArray⟩, .int .i64 (wayOf x2), .int .u64 (v : Int)],
    fun yy W => ∃ g, yy = .pointer (some ⟨g, 0, none⟩) ∧ w7.heap.size ≤ g ∧ W.heap[g]? = some (.cells #[.string ⟨#[]⟩, .string ⟨#[]⟩, .int .i64 0, .int .u64 0] 28 (0, 0))]) (by kernel_rfl) (by kernel_rfl) (by kernel_rfl) ?_ ?_
  · refine ⟨?_, ?_, ?_, ?_, ?_, ?_, ?_, ?_, ?_, ?_, ?_, ?_, ?_, ?_, ?_, trivial⟩
    · refine ⟨fun ρ W hk => ?_⟩
      exact OpOut.move (.tmp 4) rfl ⟨Below.refl _ _, hk.old 4 (by decide)⟩
    · refine ⟨fun ρ W hk => ?_⟩
      have h0 := (hk.fact 0 21 (by decide) rfl).pure
      exact OpOut.indexAddr (x := .tmp 21) (y := .const (.int .i64 0)) rfl h0 (hk.const _) (by go_simp; intro h; omega) ⟨Below.refl _ _, rfl⟩
    · refine ⟨fun ρ W hk => ?_⟩
      have h0 := (hk.fact 1 22 (by decide) rfl).pure
      have hc := HC7.out W hk.below 0 x0 HX0.out
      exact OpOut.load (x := .tmp 22) rfl h0 (by go_simp) ⟨Below.refl _ _, rfl⟩
    · refine ⟨fun ρ W hk => ?_⟩
      exact OpOut.move (.tmp 4) rfl ⟨Below.refl _ _, hk.old 4 (by decide)⟩
    · refine ⟨fun ρ W hk => ?_⟩
      have h0 := (hk.fact 3 24 (by decide) rfl).pure
      exact OpOut.indexAddr (x := .tmp 24) (y := .const (.int .i64 1)) rfl h0 (hk.const _) (by go_simp; intro h; omega) ⟨Below.refl _ _, rfl⟩
    · refine ⟨fun ρ W hk => ?_⟩
      have h0 := (hk.fact 4 25 (by decide) rfl).pure
      have hc := HC7.out W hk.below 1 x1 HX1.out
      exact OpOut.load (x := .tmp 25) rfl h0 (by go_simp) ⟨Below.refl _ _, rfl⟩
    · refine ⟨fun ρ W hk => ?_⟩
      have o5 : ρ (.tmp 5) = .pointer (some ⟨b5, 0, none⟩) := hk.old 5 (by decide)
      exact OpOut.sliceAll (x := .tmp 5) rfl o5 (by go_simp) ⟨Below.refl _ _, rfl⟩
    · refine ⟨fun ρ W hk => ?_⟩
      exact OpOut.move (.tmp 4) rfl ⟨Below.refl _ _, hk.old 4 (by decide)⟩
    · refine ⟨fun ρ W hk => ?_⟩
      have h0 := (hk.fact 7 28 (by decide) rfl).pure
      exact OpOut.indexAddr (x := .tmp 28) (y := .const (.int .i64 2)) rfl h0 (hk.const _) (by go_simp; intro h; omega) ⟨Below.refl _ _, rfl⟩
    · refine ⟨fun ρ W hk => ?_⟩
      have h0 := (hk.fact 8 29 (by decide) rfl).pure
      have hc := HC7.out W hk.below 2 x2 HX2.out
      exact OpOut.load (x := .tmp 29) rfl h0 (by go_simp) ⟨Below.refl _ _, rfl⟩
    · refine ⟨fun ρ W hk => ?_⟩
      have h6 := (hk.fact 6 27 (by decide) rfl).pure
      have h9 := (hk.fact 9 30 (by decide) rfl).pure
      refine OpOut.fn (args := #[.slice (some ⟨b5, 0, none⟩) 5 5, .string ⟨x2.toArray⟩]) rfl (hk.func _) (by simp [h6, h9, S]) Tryd.func31 (by kernel_rfl) rfl ?_
      refine (Tryd.slices_Index_string b5 0 5 5 namesB ⟨x2.toArray⟩ W (by decide) (by omega) (HNC.out W hk.below)).mono ?_; rintro e w5 ⟨rfl, rfl⟩
      exact ⟨_, rfl, Below.refl _ _, rfl⟩
    · refine ⟨fun ρ W hk => ?_⟩
      have h10 := (hk.fact 10 31 (by decide) rfl).pure
      refine OpOut.max2 (x := .tmp 31) (y := .const (.int .i64 0)) rfl h10 (hk.const _) ⟨Below.refl _ _, ?_⟩
      show Value.int _ _ = Value.int _ (max (Lib.idxOfS namesB ⟨x2.toArray⟩) 0)
      congr 1
      split <;> omega
    · refine ⟨fun ρ W hk => ?_⟩
      exact OpOut.move (.tmp 6) rfl ⟨Below.refl _ _, hk.old 6 (by decide)⟩
    · refine ⟨fun ρ W hk => ?_⟩
      have h2 := (hk.fact 2 23 (by decide) rfl).pure
      have h5 := (hk.fact 5 26 (by decide) rfl).pure
      have h11 := (hk.fact 11 32 (by decide) rfl).pure
      have h12 := (hk.fact 12 33 (by decide) rfl).pure
      exact OpOut.build (us := #[(0, .string ⟨x0.toArray⟩), (1, .string ⟨x1.toArray⟩), (2, .int .i64 (wayOf x2)), (3, .int .u64 (v : Int))]) rfl (by simp [h2, h5, h11, h12, S]) (by go_simp) ⟨Below.refl _ _, rfl⟩
    · refine ⟨fun ρ W hk => ?_⟩
      exact OpOut.alloc rfl (by go_simp) ⟨(Below.refl _ _).alloc (Nat.le_refl _) _, W.heap.size, rfl, hk.below.size, heap_alloc_new W _⟩
  · intro vs W2 hb hf
    obtain ⟨w13, hw13, g, e14, hg, hh⟩ := hf 14 (by decide)
    have e13 := (hf 13 (by decide)).pure
    have hh2 := (hw13.block g (blk_lt hh)).trans hh
    clear hf hw13 hh
    have e0 : W2.cell? ⟨g, 0, none⟩ = some (.string ⟨#[]⟩) := cell_blk hh2 0
    have e1 : W2.cell? ⟨g, 1, none⟩ = some (.string ⟨#[]⟩) := cell_blk hh2 1
    have e2 : W2.cell? ⟨g, 2, none⟩ = some (.int .i64 0) := cell_blk hh2 2
    have e3 : W2.cell? ⟨g, 3, none⟩ = some (.int .u64 0) := cell_blk hh2 3
    have z0 := frozen_blk hh2 0
    have z1 := frozen_blk hh2 1
    have z2 := frozen_blk hh2 2
    have z3 := frozen_blk hh2 3
    have HH2 := hide hh2
    have HG := hide hg
    have HB2 := hide hb
    clear hh2 hg hb
    simp only [fillL]
    rw [e13, e14]
    generalize vs 0 = v0, vs 1 = v1, vs 2 = v2, vs 3 = v3, vs 4 = v4, vs 5 = v5, vs 6 = v6, vs 7 = v7, vs 8 = v8, vs 9 = v9, vs 10 = v10, vs 11 = v11, vs 12 = v12
    clear e13 e14
    go_frame
    go_upto_region 5 with fail
    have hs5 : ∀ (V : World) (i : Nat) (x : Value), Only [g] V (V.setCell ⟨g, i, none⟩ x) := fun V i x => Only.setCell V (p := ⟨g, i, none⟩) (by simp) x
    have ho5 := (((hs5 W2 0 (.string ⟨x0.toArray⟩)).trans (hs5 _ 1 (.string ⟨x1.toArray⟩))).trans (hs5 _ 2 (.int .i64 (wayOf x2)))).trans (hs5 _ 3 (.int .u64 (v : Int)))
    have hbF := setCell_blk (setCell_blk (setCell_blk (setCell_blk HH2.out 0 (.string ⟨x0.toArray⟩)) 1 (.string ⟨x1.toArray⟩)) 2 (.int .i64 (wayOf x2))) 3 (.int .u64 (v : Int))
    generalize (((W2.setCell ⟨g, 0, none⟩ (.string ⟨x0.toArray⟩)).setCell ⟨g, 1, none⟩ (.string ⟨x1.toArray⟩)).setCell ⟨g, 2, none⟩ (.int .i64 (wayOf x2))).setCell ⟨g, 3, none⟩ (.int .u64 (v : Int)) = Wf at ho5 hbF ⊢
    clear e0 e1 e2 e3 z0 z1 z2 z3 hs5
    have hbF2 : Wf.heap[g]? = some (.cells #[.string ⟨x0.toArray⟩, .string ⟨x1.toArray⟩, .int .i64 (wayOf x2), .int .u64 (v : Int)] 28 (0, 0)) := hbF
    have hgb : b < g := by have := HG.out; have := HBZ.out; omega
    have hBF : Below g W2 Wf := ho5.below (Nat.le_of_lt (blk_lt HH2.out)) (by simp)
    have hBF7 : Below w7.heap.size w7 Wf := HB2.out.trans (hBF.mono HG.out)
    have HBWF := hide (HBW7.out.trans (hBF7.mono (Nat.le_of_lt HBZ.out)))
    have HXF := hide ((hBF7.block b HBZ.out).trans HX7.out)
    have HLF := hide ((LaidH.below ht.out (by rw [HB.out]; exact HBWF.out)).c)
    have HPR := hide (print_any ⟨x0, x1, wayOf x2, v⟩ Wf (by have := HPA.out x0 (List.mem_of_getElem? HX0.out); simp only; omega) (by have := HPA.out x1 (List.mem_of_getElem? HX1.out); simp only; omega) hwd HLF)
    have f0 : Wf.cell? ⟨g, 0, none⟩ = some (.string ⟨x0.toArray⟩) := cell_blk hbF2 0
    have f1 : Wf.cell? ⟨g, 1, none⟩ = some (.string ⟨x1.toArray⟩) := cell_blk hbF2 1
    have f2 : Wf.cell? ⟨g, 2, none⟩ = some (.int .i64 (wayOf x2)) := cell_blk hbF2 2
    have f3 : Wf.cell? ⟨g, 3, none⟩ = some (.int .u64 (v : Int)) := cell_blk hbF2 3
    have HBF2 := hide hbF2
    have HGB := hide hgb
    clear ho5 hbF hbF2 hBF hBF7 hgb HB2 HH2 HX7 HBW7 HC7 HNC HG HBZ HPA HX0 HX1 HX2 HX3 HPL HPS ht
    go_wp2_with fail
    refine HPR.out.mono ?_; rintro e w8 ⟨rfl, h8⟩
    have HX8 := hide ((h8.block b (blk_lt HXF.out)).trans HXF.out)
    have HG8 := hide ((h8.block g (blk_lt HBF2.out)).trans HBF2.out)
    have HBW8 := hide (HBWF.out.trans (h8.mono (Nat.le_of_lt (blk_lt HXF.out))))
    have q0 : w8.cell? ⟨b, 0, none⟩ = some (.string ⟨#[]⟩) := cell_blk HX8.out 0
    have q1 : w8.cell? ⟨b, 1, none⟩ = some (.string ⟨#[]⟩) := cell_blk HX8.out 1
    have q2 : w8.cell? ⟨b, 2, none⟩ = some (.int .i64 0) := cell_blk HX8.out 2
    have q3 : w8.cell? ⟨b, 3, none⟩ = some (.int .u64 0) := cell_blk HX8.out 3
    have y0 : w8.cell? ⟨g, 0, none⟩ = some (.string ⟨x0.toArray⟩) := cell_blk HG8.out 0
    have y1 : w8.cell? ⟨g, 1, none⟩ = some (.string ⟨x1.toArray⟩) := cell_blk HG8.out 1
    have y2 : w8.cell? ⟨g, 2, none⟩ = some (.int .i64 (wayOf x2)) := cell_blk HG8.out 2
    have y3 : w8.cell? ⟨g, 3, none⟩ = some (.int .u64 (v : Int)) := cell_blk HG8.out 3
    have z0 := frozen_blk HX8.out 0
    have z1 := frozen_blk HX8.out 1
    have z2 := frozen_blk HX8.out 2
    have z3 := frozen_blk HX8.out 3
    have hnb : ¬ b = g := by have := HGB.out; omega
    have hng : ¬ g = b := by have := HGB.out; omega
    clear h8 f0 f1 f2 f3 HPR HXF HBF2 HBWF HLF
    have HRS := hr
    clear hr
    obtain ⟨tx, htx⟩ : ∃ tx, printH ⟨x0, x1, wayOf x2, v⟩ = tx := ⟨_, rfl⟩
    rw [htx]
    have HOK : Hid (okH s = ((tx == s) && decide (s ≠ []))) := by show _ = _; unfold okH; rw [HRS.out, htx]
    clear htx
    have hBfin : ∀ a c : Value, ∀ d e' : Value, Hid (Below w.heap.size w ((((w8.setCell ⟨b, 0, none⟩ a).setCell ⟨b, 1, none⟩ c).setCell ⟨b, 2, none⟩ d).setCell ⟨b, 3, none⟩ e')) := by
      intro a c d e'
      show Below _ _ _
      rw [HB.out]
      exact (((HBW8.out.setCell (p := ⟨b, 0, none⟩) (Nat.le_refl _) _).setCell (p := ⟨b, 1, none⟩) (Nat.le_refl _) _).setCell (p := ⟨b, 2, none⟩) (Nat.le_refl _) _).setCell (p := ⟨b, 3, none⟩) (Nat.le_refl _) _
    have hXfin : ∀ a c d e' : Value, ((((w8.setCell ⟨b, 0, none⟩ a).setCell ⟨b, 1, none⟩ c).setCell ⟨b, 2, none⟩ d).setCell ⟨b, 3, none⟩ e').heap[b]? = some (.cells #[a, c, d, e'] 28 (0, 0)) := fun a c d e' => setCell_blk (setCell_blk (setCell_blk (setCell_blk HX8.out 0 a) 1 c) 2 d) 3 e'
    have HBFIN := hide hBfin; have HXFIN := hide hXfin
    clear hBfin hXfin
    cases hd : (tx == s) with
    | false =>
      have HOK' : Hid (okH s = false) := by show _ = _; rw [HOK.out, hd]; rfl
      clear HOK
      go_wp2_with fail
      have hF := HXFIN.out (.string ⟨#[]⟩) (.string ⟨#[]⟩) (.int .i64 0) (.int .u64 0)
      have hB := HBFIN.out (.string ⟨#[]⟩) (.string ⟨#[]⟩) (.int .i64 0) (.int .u64 0)
      generalize (((w8.setCell ⟨b, 0, none⟩ (.string ⟨#[]⟩)).setCell ⟨b, 1, none⟩ (.string ⟨#[]⟩)).setCell ⟨b, 2, none⟩ (.int .i64 0)).setCell ⟨b, 3, none⟩ (.int .u64 0) = wF at hF hB ⊢
      have k0 : wF.cell? ⟨b, 0, none⟩ = some (.string ⟨#[]⟩) := cell_blk hF 0
      have k1 : wF.cell? ⟨b, 1, none⟩ = some (.string ⟨#[]⟩) := cell_blk hF 1
      have k2 : wF.cell? ⟨b, 2, none⟩ = some (.int .i64 0) := cell_blk hF 2
      have k3 : wF.cell? ⟨b, 3, none⟩ = some (.int .u64 0) := cell_blk hF 3
      refine bodyPost_ret (v := .tuple #[.agg #[.string ⟨#[]⟩, .string ⟨#[]⟩, .int .i64 0, .int .u64 0], .int .i64 4]) (by simp [results, Tryd.results14, go_sem, k0, k1, k2, k3]) rfl ?_
      exact ⟨by rw [HOK'.out]; rfl, hB⟩
    | true =>
      cases he : decide (s ≠ []) with
      | false =>
        have hs0 : s = [] := by simpa using he
        have HOK' : Hid (okH s = false) := by show _ = _; rw [HOK.out, hd, he]; rfl
        have hemp : s.isEmpty = true := by rw [hs0]; rfl
        have HS0 := hide hs0
        clear HOK hs0 he
        go_wp2_with fail
        have hF := HXFIN.out (.string ⟨#[]⟩) (.string ⟨#[]⟩) (.int .i64 0) (.int .u64 0)
        have hB := HBFIN.out (.string ⟨#[]⟩) (.string ⟨#[]⟩) (.int .i64 0) (.int .u64 0)
        generalize (((w8.setCell ⟨b, 0, none⟩ (.string ⟨#[]⟩)).setCell ⟨b, 1, none⟩ (.string ⟨#[]⟩)).setCell ⟨b, 2, none⟩ (.int .i64 0)).setCell ⟨b, 3, none⟩ (.int .u64 0) = wF at hF hB ⊢
        have k0 : wF.cell? ⟨b, 0, none⟩ = some (.string ⟨#[]⟩) := cell_blk hF 0
        have k1 : wF.cell? ⟨b, 1, none⟩ = some (.string ⟨#[]⟩) := cell_blk hF 1
        have k2 : wF.cell? ⟨b, 2, none⟩ = some (.int .i64 0) := cell_blk hF 2
        have k3 : wF.cell? ⟨b, 3, none⟩ = some (.int .u64 0) := cell_blk hF 3
        refine bodyPost_ret (v := .tuple #[.agg #[.string ⟨#[]⟩, .string ⟨#[]⟩, .int .i64 0, .int .u64 0], .int .i64 4]) (by simp [results, Tryd.results14, go_sem, k0, k1, k2, k3]) rfl ?_
        exact ⟨by rw [HOK'.out]; rfl, hB⟩
      | true =>
        have hs0 : s ≠ [] := by simpa using he
        have HOK' : Hid (okH s = true) := by show _ = _; rw [HOK.out, hd, he]; rfl
        have hemp : s.isEmpty = false := by
          cases s with
          | nil => exact absurd rfl hs0
          | cons a r => rfl
        clear HOK hs0 he
        go_wp2_with fail
        have hF := HXFIN.out (.string ⟨x0.toArray⟩) (.string ⟨x1.toArray⟩) (.int .i64 (wayOf x2)) (.int .u64 (v : Int))
        have hB := HBFIN.out (.string ⟨x0.toArray⟩) (.string ⟨x1.toArray⟩) (.int .i64 (wayOf x2)) (.int .u64 (v : Int))
        generalize (((w8.setCell ⟨b, 0, none⟩ (.string ⟨x0.toArray⟩)).setCell ⟨b, 1, none⟩ (.string ⟨x1.toArray⟩)).setCell ⟨b, 2, none⟩ (.int .i64 (wayOf x2))).setCell ⟨b, 3, none⟩ (.int .u64 (v : Int)) = wF at hF hB ⊢
        have k0 : wF.cell? ⟨b, 0, none⟩ = some (.string ⟨x0.toArray⟩) := cell_blk hF 0
        have k1 : wF.cell? ⟨b, 1, none⟩ = some (.string ⟨x1.toArray⟩) := cell_blk hF 1
        have k2 : wF.cell? ⟨b, 2, none⟩ = some (.int .i64 (wayOf x2)) := cell_blk hF 2
        have k3 : wF.cell? ⟨b, 3, none⟩ = some (.int .u64 (v : Int)) := cell_blk hF 3
        refine bodyPost_ret (v := .tuple #[.agg #[.string ⟨x0.toArray⟩, .string ⟨x1.toArray⟩, .int .i64 (wayOf x2), .int .u64 (v : Int)], .int .i64 0]) (by simp [results, Tryd.results14, go_sem, k0, k1, k2, k3]) rfl ?_
        exact ⟨by rw [HOK'.out]; rw [HRS.out]; rfl, hB⟩
end Go.Proofs.YtnfaaiifbiobiaaDoor
