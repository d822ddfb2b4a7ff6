/-
  HostSame: the walk.
-/
import Derived.Test.YtnfaaiifbiobiaaDoorHostM
namespace Go.Proofs.YtnfaaiifbiobiaaDoor
open Go.RowKit
set_option linter.unusedVariables false

theorem answer_nothing (w : World) : Calls Tryd.prog 10 #[.pointer none, .agg #[.string ⟨#[]⟩, .string ⟨#[]⟩, .int .i64 0], .agg #[.slice none 0 0, .slice none 0 0], .slice none 0 0] w fun e w' => e = .returned (.tuple #[.slice none 0 0, .bool false]) ∧ Hid (Below w.heap.size w w') := answer_none [] [] 0 _ _ _ w
theorem rule_nothing (w : World) : Calls Tryd.prog 9 #[.pointer none, .agg #[.string ⟨#[]⟩, .string ⟨#[]⟩, .int .i64 0]] w fun e w' => e = .returned (.tuple #[.int .i64 0, .bool false]) ∧ Hid (Below w.heap.size w w') := rule_none [] [] 0 w

theorem below_drewN3 {B : Nat} {a b : World} (h : Below B a b) (d : Nat) : Below B a (b.drewN d) := ⟨h.os, h.tape, h.output, h.size, h.block⟩
theorem OpOut.extract {P : Program} {o : Oper} {ρ : Operand → Value} {W : World} {post : Value → World → Prop} {v : Value} {x : Operand} {ix : Nat} {a : Value} (ho : o.op = .extract x ix) (hx : ρ x = a) (hr : (Instr.extract a ix).run P W = .ok v W) (h : post v W) : OpOut P o ρ W post :=
  ⟨by unfold execOp; rw [ho]; simp only [hx, Sem.run_bind, Sem.run_pure, hr, Result.andThen_ok]; exact h⟩
/-- an ask, and the types that it asks for, in memory -/
structure AskAt (w : World) (ad : Addr) (j : Nat) (a : AK) (b : Nat) (A2 : Option Addr) (c2 : Nat) : Prop where
  f0 : w.cell? (ad.add (j * 5)) = some (.string ⟨a.m.toArray⟩)
  f1 : w.cell? ⟨(ad.add (j * 5)).block, (ad.add (j * 5)).off + 1, none⟩ = some (.string ⟨a.n.toArray⟩)
  f2 : w.cell? ⟨(ad.add (j * 5)).block, (ad.add (j * 5)).off + 2, none⟩ = some (.int .i64 a.sg)
  f4 : w.cell? ⟨(ad.add (j * 5)).block, (ad.add (j * 5)).off + 4, none⟩ = some (.slice a.Ag a.gs.length a.cg)
  s : w.heap[b]? = some (.cells #[.slice none 0 0, .slice A2 a.ts.length c2] 47 (0, 0))
theorem AskAt.only {w w' : World} {ad : Addr} {j : Nat} {a : AK} {b : Nat} {A2 : Option Addr} {c2 : Nat} {S : List Nat} (h : AskAt w ad j a b A2 c2) (ho : Only S w w') (h1 : ad.block ∉ S) (h2 : b ∉ S) : AskAt w' ad j a b A2 c2 :=
  ⟨ho.cell_some h.f0 (by rw [block_of_add]; exact h1), ho.cell_some h.f1 (by show (ad.add (j * 5)).block ∉ S; rw [block_of_add]; exact h1), ho.cell_some h.f2 (by show (ad.add (j * 5)).block ∉ S; rw [block_of_add]; exact h1), ho.cell_some h.f4 (by show (ad.add (j * 5)).block ∉ S; rw [block_of_add]; exact h1), (ho.block b (blk_lt h.s) h2).trans h.s⟩
theorem AskAt.s0 {w : World} {ad : Addr} {j : Nat} {a : AK} {b : Nat} {A2 : Option Addr} {c2 : Nat} (h : AskAt w ad j a b A2 c2) : w.cell? ⟨b, 0, none⟩ = some (.slice none 0 0) := cell_blk h.s 0
theorem AskAt.s1 {w : World} {ad : Addr} {j : Nat} {a : AK} {b : Nat} {A2 : Option Addr} {c2 : Nat} (h : AskAt w ad j a b A2 c2) : w.cell? ⟨b, 1, none⟩ = some (.slice A2 a.ts.length c2) := cell_blk h.s 1

set_option maxRecDepth 100000 in
set_option maxHeartbeats 1600000 in
theorem same_any (A0 : Option Addr) (c0 n : Nat) (rs : List HR) (A1 : Option Addr) (c1 m : Nat) (as_ : List AK) (w : World) (h0 : Hid (Reads w w.heap.size 4 A0 rs.length (rs.flatMap hrV))) (hn : Hid (rs.length = n)) (hf : Hid (Fair rs)) (h1 : Hid (AsksOk w w.heap.size A1 as_)) (hm : Hid (as_.length = m)) (ht : Hid (LaidH w)) (hn40 : n ≤ 40) (hm40 : m ≤ 40) :
    Calls Tryd.prog 4 #[.slice A0 n c0, .slice A1 m c1] w fun e w' => e = .returned (.bool true) ∧ Hid (Below w.heap.size w w') := by
  have HA := hide (awakeH w ht)
  obtain ⟨B0, hB0⟩ : ∃ b, w.heap.size = b := ⟨_, rfl⟩
  have HB0 := hide hB0
  rw [hB0] at h0 h1
  clear hB0 ht
  go_enter Tryd.func4, Tryd.ntmps4
  go_wp2_with fail
  refine HA.out.mono ?_; rintro e wa ⟨rfl, ha⟩
  go_upto_region 3 with fail
  obtain ⟨B1, hB1⟩ : ∃ b, wa.heap.size = b := ⟨_, rfl⟩
  have hBa : Below B0 w wa := by have := ha.out; rw [HB0.out] at this; exact this
  have hB01 : B0 ≤ B1 := by have := hBa.size; have := ha.out.size; have := HB0.out; omega
  have HNA := hide (new_all A0 c0 n rs wa ((h0.out.below hBa).more (by omega)) hn.out (by omega) hf)
  have HBA := hide hBa; have HB1 := hide hB1
  clear hBa hB1 HA ha
  go_wp2_with fail
  refine HNA.out.mono ?_; rintro e wb ⟨v1, rfl, hs1, hb1, hp1⟩
  rw [HB1.out] at hs1 hb1
  obtain ⟨E1, hE1⟩ : ∃ b, wb.heap.size = b := ⟨_, rfl⟩
  rw [hE1] at hs1
  have hBE1 : B1 ≤ E1 := by rw [← hE1, ← HB1.out]; have := hb1.out.size; have := HB1.out; omega
  have hBb : Below B0 w wb := HBA.out.trans (hb1.out.mono hB01)
  have HNB := hide (new_all A0 c0 n rs wb ((h0.out.below hBb).more (by omega)) hn.out (by omega) hf)
  have HBB := hide hBb; have HE1 := hide hE1
  clear hBb hE1 HNA hb1 HBA
  go_upto_region 4 with fail
  go_wp2_with fail
  refine HNB.out.mono ?_; rintro e wc ⟨v2, rfl, hs2, hb2, hp2⟩
  rw [HE1.out] at hs2 hb2
  obtain ⟨E2, hE2⟩ : ∃ b, wc.heap.size = b := ⟨_, rfl⟩
  rw [hE2] at hs2
  have hE12 : E1 ≤ E2 := by have := hb2.out.size; have := HE1.out; omega
  have HS1 : Hid (Hst wc B1 E1 v1 (newS rs)) := by
    have h := hb2.out
    rw [← HE1.out] at h
    exact hs1.out.below h
  have HBC : Hid (Below B0 w wc) := HBB.out.trans (hb2.out.mono (by omega))
  have HE2 := hide hE2
  have hx : (newE rs != newE rs) = false := by simp
  have HFW := hide (newS_few rs)
  clear hs1 hE2 HNB hb2 HBB HE1 HB1 h0 hf
  generalize newE rs = er at *
  generalize newS rs = st0 at *
  go_wp2_with fail
  go_loopw [9, 10, 11, 12, 13, 14, 15] (fun i _ _ _ _ _ _ w1 => ∃ (j : Nat) (st : HS), i = .int .i64 j ∧ j ≤ m ∧ Hid (Hst w1 B1 E1 v1 st) ∧ Hid (Hst w1 E1 E2 v2 st) ∧ Hid (Few st j) ∧ Hid (Below B0 w w1) ∧ E2 ≤ w1.heap.size) (fun i _ _ _ _ _ _ _ => m - (intOf i).toNat)
  case atStart => exact ⟨0, st0, rfl, by omega, HS1, hs2, HFW, HBC, by rw [HE2.out]; omega⟩
  case round =>
    clear HS1 hs2 HFW HBC HE2
    obtain ⟨j, st, rfl, hj, HS1, HS2, HFW, HBR, hE2⟩ := hrel
    by_cases hlt : j < m
    · obtain ⟨ad, a, rfl, ha, e0, e1, e2, e3, e4, hab, hr1, hr2, hgu⟩ := ask_at (h1.out.below HBR.out) (i := j) (by rw [hm.out]; exact hlt)
      by_cases ht20 : 20 < a.ts.length
      · go_wp2_with fail
        go_ret
        exact ⟨rfl, by rw [HB0.out]; exact HBR.out⟩
      · by_cases hg20 : 20 < a.gs.length
        · go_wp2_with fail
          go_ret
          exact ⟨rfl, by rw [HB0.out]; exact HBR.out⟩
        · have hTO := hide (to_any a.Ar a.cr a.ts wr (hr1.out.more (by omega)) (by omega))
          go_upto_region 12 with fail
          go_wp2_with fail
          refine hTO.out.mono ?_; rintro e w2 ⟨A2, c2, rfl, hr2', hlo, hb2⟩
          go_upto_region 13 with fail
          obtain ⟨b10, hb10⟩ : ∃ b, w2.heap.size = b := ⟨_, rfl⟩
          obtain ⟨w3, hw3⟩ : ∃ x, w2.alloc (.cells #[.slice none 0 0, .slice A2 a.ts.length c2] 47) = x := ⟨_, rfl⟩
          rw [hw3, hb10]
          have hb3 : Below w2.heap.size w2 w3 := by rw [← hw3]; exact (Below.refl _ _).alloc (Nat.le_refl _) _
          have hb23 : Below wr.heap.size wr w3 := hb2.out.trans (hb3.mono hb2.out.size)
          have hsg : w3.heap[b10]? = some (.cells #[.slice none 0 0, .slice A2 a.ts.length c2] 47 (0, 0)) := by rw [← hw3, ← hb10]; exact heap_alloc_new w2 _
          have hAT0 : AskAt w3 ad j a b10 A2 c2 := by
            have key : ∀ (p : Addr) (u : Value), p.block = ad.block → wr.cell? p = some u → w3.cell? p = some u := fun p u hp hc => (hb23.cell (by rw [hp]; have := hab.out; omega)).trans hc
            exact ⟨key _ _ (block_of_add _ _) e0, key ⟨_, _, none⟩ _ (block_of_add _ _) e1, key ⟨_, _, none⟩ _ (block_of_add _ _) e2, key ⟨_, _, none⟩ _ (block_of_add _ _) e4, hsg⟩
          have hbE : E2 ≤ b10 := by have := hb2.out.size; omega
          have hA3 : Hid (Hst w3 B1 E1 v1 st) := HS1.out.below hb23
          have hB3 : Hid (Hst w3 E1 E2 v2 st) := HS2.out.below hb23
          have hw3s : E2 ≤ w3.heap.size := by have := hb23.size; omega
          have hrg : Reads w3 B0 1 a.Ag a.gs.length (a.gs.map U) := hr2.out.below (hb23.mono (by omega))
          have hrt : Reads w3 w3.heap.size 1 A2 a.ts.length (a.ts.map B) := (hr2'.out.below hb3).more hb3.size
          have hloE : ∀ ad, A2 = some ad → E2 ≤ ad.block := fun ad e => by have := hlo.out ad e; omega
          have HBW3 := hide (HBR.out.trans (hb23.mono (by omega)))
          have HT := hide hAT0
          have hab' := hab.out
          obtain ⟨q, hq⟩ : ∃ q, (outS st a.m a.n a.ts a.gs).isSome = q := ⟨_, rfl⟩
          obtain ⟨ol, hol⟩ : ∃ ol, outL (outS st a.m a.n a.ts a.gs) = ol := ⟨_, rfl⟩
          have holl : ol.length ≤ 20 := by rw [← hol]; have := outL_len st a.m a.n a.ts a.gs; omega
          obtain ⟨st', hst'⟩ : ∃ s, stepS st a.m a.n = s := ⟨_, rfl⟩
          have HFW' : Hid (Few st' (j + 1)) := by show Few _ _; rw [← hst']; exact stepS_few HFW.out _ _
          have HFW9 : Hid (Few st 999) := by intro rs' qs' e q' hq'; have := HFW.out rs' qs' e q' hq'; omega
          have HAT1 : Hid (∀ W, AOnly B1 E1 w3 W → AskAt W ad j a b10 A2 c2) := fun W h => HT.out.only h (fun hm => by have := mem_BE.1 hm; omega) (fun hm => by have := mem_BE.1 hm; omega)
          have HANS1 : Hid (∀ W, grew w3 W → Calls Tryd.prog 10 #[v1, .agg #[.string ⟨a.m.toArray⟩, .string ⟨a.n.toArray⟩, .int .i64 a.sg], .agg #[.slice none 0 0, .slice A2 a.ts.length c2], .slice a.Ag a.gs.length a.cg] W
              fun e w' => ∃ A c, e = .returned (.tuple #[.slice A ol.length c, .bool q]) ∧ Hid (Reads w' w'.heap.size 1 A ol.length (ol.map U)) ∧ Hid (∀ ad, 0 < ol.length → A = some ad → W.heap.size ≤ ad.block) ∧ Hid (AOnly B1 E1 W w') ∧ Hid (Hst w' B1 E1 v1 st')) := by
            intro W hW
            have h := answer_all B1 E1 v1 st a.m a.n a.sg (.slice none 0 0) A2 c2 a.ts a.Ag a.cg a.gs W (hA3.out.below hW) (fun W' h' => ((hrt.below hW).more hW.size).aonly2 h' (fun ad e => by have := hloE ad e; omega)) (fun W' h' => (hrg.below (hW.mono (by omega))).aonly h' hB01 (by have := hW.size; omega)) (by omega) (by omega) hgu HFW9
            unfold AnsP at h
            rw [hq, hol, hst'] at h
            exact h
          have HANS2 : Hid (∀ W, Below B0 w3 W → w3.heap.size ≤ W.heap.size → Hst W E1 E2 v2 st → AskAt W ad j a b10 A2 c2 → Reads W W.heap.size 1 A2 a.ts.length (a.ts.map B) → Calls Tryd.prog 10 #[v2, .agg #[.string ⟨a.m.toArray⟩, .string ⟨a.n.toArray⟩, .int .i64 a.sg], .agg #[.slice none 0 0, .slice A2 a.ts.length c2], .slice a.Ag a.gs.length a.cg] W
              fun e w' => ∃ A c, e = .returned (.tuple #[.slice A ol.length c, .bool q]) ∧ Hid (Reads w' w'.heap.size 1 A ol.length (ol.map U)) ∧ Hid (∀ ad, 0 < ol.length → A = some ad → W.heap.size ≤ ad.block) ∧ Hid (AOnly E1 E2 W w') ∧ Hid (Hst w' E1 E2 v2 st')) := by
            intro W hW hWs hH hAt hR
            have h := answer_all E1 E2 v2 st a.m a.n a.sg (.slice none 0 0) A2 c2 a.ts a.Ag a.cg a.gs W hH (fun W' h' => hR.aonly2 h' (fun ad e => by have := hloE ad e; omega)) (fun W' h' => (hrg.below hW).aonly h' (by omega) (by omega)) (by omega) (by omega) hgu HFW9
            unfold AnsP at h
            rw [hq, hol, hst'] at h
            exact h
          have HRT := hide hrt; have HLOE := hide hloE
          clear hw3 hb10 hb3 hb23 hsg hAT0 hrg hrt hq hol hst' HS1 HS2 HFW HFW9 e0 e1 e2 e3 e4 hr1 hr2 hr2' hlo hloE hb2 hTO HBR hE2 hab
          --ASK base=77 host=5 asks=1 idx=9 sig=10 tup=76 o1=11 o2=12 w=w3 B=B1 E=E1 v=v1 EF=E2 HAT=HAT1 HANS=HANS1 NO=HO1 NS=HSA NB=HAO tag=x WW=W2
          refine wp_region_factsC grew_ext (AOnly.ext B1 E1) (fun _ _ h => AOnly.of_below h) 12 (factsOf [fun yy _ => yy = v1,
            fun yy _ => yy = .slice (some ad) m c1,
            fun yy _ => yy = .int .i64 j,
            fun yy _ => yy = .pointer (some (ad.add (j * 5))),
            fun yy _ => yy = .pointer (some (ad.add (j * 5))),
            fun yy _ => yy = .agg #[.string ⟨a.m.toArray⟩, .string ⟨a.n.toArray⟩, .int .i64 a.sg],
            fun yy _ => yy = .agg #[.slice none 0 0, .slice A2 a.ts.length c2],
            fun yy _ => yy = .slice (some ad) m c1,
            fun yy _ => yy = .int .i64 j,
            fun yy _ => yy = .pointer (some (ad.add (j * 5))),
            fun yy _ => yy = .pointer (some ⟨(ad.add (j * 5)).block, (ad.add (j * 5)).off + 4, none⟩),
            fun yy _ => yy = .slice a.Ag a.gs.length a.cg,
            fun yy W => (∃ u, yy = .tuple #[u, .bool q] ∧ OutF E2 ol u W) ∧ Hst W B1 E1 v1 st',
            fun yy W => ∃ u, yy = .tuple #[u, .bool q] ∧ OutF E2 ol u W,
            fun yy W => OutF E2 ol yy W,
            fun yy _ => yy = .bool q,
            fun yy W => OutF E2 ol yy W,
            fun yy _ => yy = .bool q]) (by kernel_rfl) (by kernel_rfl) (by decide) ?_ ?_
          · refine ⟨?_, ?_, ?_, ?_, ?_, ?_, ?_, ?_, ?_, ?_, ?_, ?_, ?_, ?_, ?_, ?_, ?_, ?_, trivial⟩
            · refine ObC.plain (by decide) rfl fun ρ W hk => ?_
              exact OpOut.move (.tmp 5) rfl ⟨Below.refl _ _, hk.old 5 (by decide)⟩
            · refine ObC.plain (by decide) rfl fun ρ W hk => ?_
              exact OpOut.move (.tmp 1) rfl ⟨Below.refl _ _, hk.old 1 (by decide)⟩
            · refine ObC.plain (by decide) rfl fun ρ W hk => ?_
              exact OpOut.move (.tmp 9) rfl ⟨Below.refl _ _, hk.old 9 (by decide)⟩
            · refine ObC.plain (by decide) rfl fun ρ W hk => ?_
              have h1 := (hk.fact 1 78 (by decide) rfl).pure
              have h2 := (hk.fact 2 79 (by decide) rfl).pure
              exact OpOut.indexAddr (x := .tmp 78) (y := .tmp 79) rfl h1 h2 (by go_simp; try omega) ⟨Below.refl _ _, rfl⟩
            · refine ObC.plain (by decide) rfl fun ρ W hk => ?_
              have h3 := (hk.fact 3 80 (by decide) rfl).pure
              exact OpOut.fieldAddr (x := .tmp 80) rfl h3 (by go_simp) ⟨Below.refl _ _, rfl⟩
            · refine ObC.plain (by decide) rfl fun ρ W hk => ?_
              have h4 := (hk.fact 4 81 (by decide) rfl).pure
              have hc := HAT1.out W hk.below
              have k0 := hc.f0
              have k1 := hc.f1
              have k2 := hc.f2
              exact OpOut.load (x := .tmp 81) rfl h4 (by go_simp) ⟨Below.refl _ _, rfl⟩
            · refine ObC.plain (by decide) rfl fun ρ W hk => ?_
              have o10 : ρ (.tmp 10) = .pointer (some ⟨b10, 0, none⟩) := hk.old 10 (by decide)
              have hc := HAT1.out W hk.below
              have k0 := hc.s0
              have k1 := hc.s1
              exact OpOut.load (x := .tmp 10) rfl o10 (by go_simp) ⟨Below.refl _ _, rfl⟩
            · refine ObC.plain (by decide) rfl fun ρ W hk => ?_
              exact OpOut.move (.tmp 1) rfl ⟨Below.refl _ _, hk.old 1 (by decide)⟩
            · refine ObC.plain (by decide) rfl fun ρ W hk => ?_
              exact OpOut.move (.tmp 9) rfl ⟨Below.refl _ _, hk.old 9 (by decide)⟩
            · refine ObC.plain (by decide) rfl fun ρ W hk => ?_
              have h1 := (hk.fact 7 84 (by decide) rfl).pure
              have h2 := (hk.fact 8 85 (by decide) rfl).pure
              exact OpOut.indexAddr (x := .tmp 84) (y := .tmp 85) rfl h1 h2 (by go_simp; try omega) ⟨Below.refl _ _, rfl⟩
            · refine ObC.plain (by decide) rfl fun ρ W hk => ?_
              have h9 := (hk.fact 9 86 (by decide) rfl).pure
              exact OpOut.fieldAddr (x := .tmp 86) rfl h9 (by go_simp) ⟨Below.refl _ _, rfl⟩
            · refine ObC.plain (by decide) rfl fun ρ W hk => ?_
              have h10 := (hk.fact 10 87 (by decide) rfl).pure
              have hc := HAT1.out W hk.below
              have k4 := hc.f4
              exact OpOut.load (x := .tmp 87) rfl h10 (by go_simp) ⟨Below.refl _ _, rfl⟩
            · refine ObC.writes rfl fun ρ W hk hw => ?_
              have h0 := (hk.fact 0 77 (by decide) rfl).pure
              have h5 := (hk.fact 5 82 (by decide) rfl).pure
              have h6 := (hk.fact 6 83 (by decide) rfl).pure
              have h11 := (hk.fact 11 88 (by decide) rfl).pure
              refine OpOut.fn (args := #[v1, .agg #[.string ⟨a.m.toArray⟩, .string ⟨a.n.toArray⟩, .int .i64 a.sg], .agg #[.slice none 0 0, .slice A2 a.ts.length c2], .slice a.Ag a.gs.length a.cg]) rfl (hk.func _) (by simp [h0, h5, h6, h11]) Tryd.func10 (by kernel_rfl) rfl ?_
              refine (HANS1.out W hw).mono ?_; rintro ee w5 ⟨A, c, rfl, g1, g2, g3, g4⟩
              exact ⟨_, rfl, g3.out, ⟨_, rfl, A, c, rfl, g1.out, fun ad' p1 p2 => by have := g2.out ad' p1 p2; have := hw.size; omega⟩, g4.out⟩
            · refine ObC.plain (by decide) rfl fun ρ W hk => ?_
              obtain ⟨wq, hq, ⟨u, e12, ho⟩, _⟩ := hk.fact 12 89 (by decide) rfl
              exact OpOut.move (.tmp 89) rfl ⟨Below.refl _ _, u, e12, ho.aonly hq (by omega)⟩
            · refine ObC.plain (by decide) rfl fun ρ W hk => ?_
              obtain ⟨wq, hq, u, e13, ho⟩ := hk.fact 13 76 (by decide) rfl
              exact OpOut.extract (x := .tmp 76) rfl e13 (by go_simp; try rfl) ⟨Below.refl _ _, ho.aonly hq (by omega)⟩
            · refine ObC.plain (by decide) rfl fun ρ W hk => ?_
              obtain ⟨wq, hq, u, e13, ho⟩ := hk.fact 13 76 (by decide) rfl
              exact OpOut.extract (x := .tmp 76) rfl e13 (by go_simp; try rfl) ⟨Below.refl _ _, rfl⟩
            · refine ObC.plain (by decide) rfl fun ρ W hk => ?_
              obtain ⟨wq, hq, ho⟩ := hk.fact 14 90 (by decide) rfl
              exact OpOut.assign (.tmp 90) rfl ⟨Below.refl _ _, OutF.aonly ho hq (by omega)⟩
            · refine ObC.plain (by decide) rfl fun ρ W hk => ?_
              have h15 := (hk.fact 15 91 (by decide) rfl).pure
              exact OpOut.assign (.tmp 91) rfl ⟨Below.refl _ _, h15⟩
          · intro vs W2 hb hf hcf
            obtain ⟨wq, hq, ho⟩ := hf 16 (by decide)
            have hout : OutF E2 ol (vs 16) W2 := OutF.aonly ho hq (by omega)
            have e17 := (hf 17 (by decide)).pure
            obtain ⟨wp, hp, _, hst⟩ := hcf
            have hst2 := hst.below hp
            have HO1 := hide hout; have HSA := hide hst2; have HAO := hide hb
            clear hf ho hq hout hst hst2 hp hb
            simp only [fillL]
            rw [e17]
            generalize vs 0 = vx0, vs 1 = vx1, vs 2 = vx2, vs 3 = vx3, vs 4 = vx4, vs 5 = vx5, vs 6 = vx6, vs 7 = vx7, vs 8 = vx8, vs 9 = vx9, vs 10 = vx10, vs 11 = vx11, vs 12 = vx12, vs 13 = vx13, vs 14 = vx14, vs 15 = vx15, vs 16 = vx16 at *
            clear e17
            go_frame
          --ENDASK
            go_upto_region 14 with fail
            have HB4 : Hid (Hst W2 E1 E2 v2 st) := hB3.out.other HAO.out (.inr (Nat.le_refl _))
            have HT2 := hide (HAT1.out W2 HAO.out)
            have HRT2 := hide (HRT.out.aonly2 HAO.out (fun ad e => by have := HLOE.out ad e; omega))
            have HBW2 := hide (HAO.out.below hB01 (by omega))
            have hs2 := HAO.out.size
            have HAT2 : Hid (∀ W, AOnly E1 E2 W2 W → AskAt W ad j a b10 A2 c2) := fun W h => HT2.out.only h (fun hm => by have := mem_BE.1 hm; omega) (fun hm => by have := mem_BE.1 hm; omega)
            have HANS3 : Hid (∀ W, grew W2 W → Calls Tryd.prog 10 #[v2, .agg #[.string ⟨a.m.toArray⟩, .string ⟨a.n.toArray⟩, .int .i64 a.sg], .agg #[.slice none 0 0, .slice A2 a.ts.length c2], .slice a.Ag a.gs.length a.cg] W
              fun e w' => ∃ A c, e = .returned (.tuple #[.slice A ol.length c, .bool q]) ∧ Hid (Reads w' w'.heap.size 1 A ol.length (ol.map U)) ∧ Hid (∀ ad, 0 < ol.length → A = some ad → W.heap.size ≤ ad.block) ∧ Hid (AOnly E1 E2 W w') ∧ Hid (Hst w' E1 E2 v2 st')) :=
              fun W hW => HANS2.out W (HBW2.out.trans (hW.mono (by omega))) (by have := hW.size; omega) (HB4.out.below hW) (HT2.out.only (S := []) (Only.of_below hW) (by simp) (by simp)) ((HRT2.out.below hW).more hW.size)
            clear HANS1 HANS2 HAT1 HT hA3 hB3 HRT
            --ASK base=93 host=7 asks=1 idx=9 sig=10 tup=92 o1=13 o2=14 w=W2 B=E1 E=E2 v=v2 EF=E2 HAT=HAT2 HANS=HANS3 NO=HO2 NS=HSB NB=HAO2 tag=y WW=W4
            refine wp_region_factsC grew_ext (AOnly.ext E1 E2) (fun _ _ h => AOnly.of_below h) 12 (factsOf [fun yy _ => yy = v2,
              fun yy _ => yy = .slice (some ad) m c1,
              fun yy _ => yy = .int .i64 j,
              fun yy _ => yy = .pointer (some (ad.add (j * 5))),
              fun yy _ => yy = .pointer (some (ad.add (j * 5))),
              fun yy _ => yy = .agg #[.string ⟨a.m.toArray⟩, .string ⟨a.n.toArray⟩, .int .i64 a.sg],
              fun yy _ => yy = .agg #[.slice none 0 0, .slice A2 a.ts.length c2],
              fun yy _ => yy = .slice (some ad) m c1,
              fun yy _ => yy = .int .i64 j,
              fun yy _ => yy = .pointer (some (ad.add (j * 5))),
              fun yy _ => yy = .pointer (some ⟨(ad.add (j * 5)).block, (ad.add (j * 5)).off + 4, none⟩),
              fun yy _ => yy = .slice a.Ag a.gs.length a.cg,
              fun yy W => (∃ u, yy = .tuple #[u, .bool q] ∧ OutF E2 ol u W) ∧ Hst W E1 E2 v2 st',
              fun yy W => ∃ u, yy = .tuple #[u, .bool q] ∧ OutF E2 ol u W,
              fun yy W => OutF E2 ol yy W,
              fun yy _ => yy = .bool q,
              fun yy W => OutF E2 ol yy W,
              fun yy _ => yy = .bool q]) (by kernel_rfl) (by kernel_rfl) (by decide) ?_ ?_
            · refine ⟨?_, ?_, ?_, ?_, ?_, ?_, ?_, ?_, ?_, ?_, ?_, ?_, ?_, ?_, ?_, ?_, ?_, ?_, trivial⟩
              · refine ObC.plain (by decide) rfl fun ρ W hk => ?_
                exact OpOut.move (.tmp 7) rfl ⟨Below.refl _ _, hk.old 7 (by decide)⟩
              · refine ObC.plain (by decide) rfl fun ρ W hk => ?_
                exact OpOut.move (.tmp 1) rfl ⟨Below.refl _ _, hk.old 1 (by decide)⟩
              · refine ObC.plain (by decide) rfl fun ρ W hk => ?_
                exact OpOut.move (.tmp 9) rfl ⟨Below.refl _ _, hk.old 9 (by decide)⟩
              · refine ObC.plain (by decide) rfl fun ρ W hk => ?_
                have h1 := (hk.fact 1 94 (by decide) rfl).pure
                have h2 := (hk.fact 2 95 (by decide) rfl).pure
                exact OpOut.indexAddr (x := .tmp 94) (y := .tmp 95) rfl h1 h2 (by go_simp; try omega) ⟨Below.refl _ _, rfl⟩
              · refine ObC.plain (by decide) rfl fun ρ W hk => ?_
                have h3 := (hk.fact 3 96 (by decide) rfl).pure
                exact OpOut.fieldAddr (x := .tmp 96) rfl h3 (by go_simp) ⟨Below.refl _ _, rfl⟩
              · refine ObC.plain (by decide) rfl fun ρ W hk => ?_
                have h4 := (hk.fact 4 97 (by decide) rfl).pure
                have hc := HAT2.out W hk.below
                have k0 := hc.f0
                have k1 := hc.f1
                have k2 := hc.f2
                exact OpOut.load (x := .tmp 97) rfl h4 (by go_simp) ⟨Below.refl _ _, rfl⟩
              · refine ObC.plain (by decide) rfl fun ρ W hk => ?_
                have o10 : ρ (.tmp 10) = .pointer (some ⟨b10, 0, none⟩) := hk.old 10 (by decide)
                have hc := HAT2.out W hk.below
                have k0 := hc.s0
                have k1 := hc.s1
                exact OpOut.load (x := .tmp 10) rfl o10 (by go_simp) ⟨Below.refl _ _, rfl⟩
              · refine ObC.plain (by decide) rfl fun ρ W hk => ?_
                exact OpOut.move (.tmp 1) rfl ⟨Below.refl _ _, hk.old 1 (by decide)⟩
              · refine ObC.plain (by decide) rfl fun ρ W hk => ?_
                exact OpOut.move (.tmp 9) rfl ⟨Below.refl _ _, hk.old 9 (by decide)⟩
              · refine ObC.plain (by decide) rfl fun ρ W hk => ?_
                have h1 := (hk.fact 7 100 (by decide) rfl).pure
                have h2 := (hk.fact 8 101 (by decide) rfl).pure
                exact OpOut.indexAddr (x := .tmp 100) (y := .tmp 101) rfl h1 h2 (by go_simp; try omega) ⟨Below.refl _ _, rfl⟩
              · refine ObC.plain (by decide) rfl fun ρ W hk => ?_
                have h9 := (hk.fact 9 102 (by decide) rfl).pure
                exact OpOut.fieldAddr (x := .tmp 102) rfl h9 (by go_simp) ⟨Below.refl _ _, rfl⟩
              · refine ObC.plain (by decide) rfl fun ρ W hk => ?_
                have h10 := (hk.fact 10 103 (by decide) rfl).pure
                have hc := HAT2.out W hk.below
                have k4 := hc.f4
                exact OpOut.load (x := .tmp 103) rfl h10 (by go_simp) ⟨Below.refl _ _, rfl⟩
              · refine ObC.writes rfl fun ρ W hk hw => ?_
                have h0 := (hk.fact 0 93 (by decide) rfl).pure
                have h5 := (hk.fact 5 98 (by decide) rfl).pure
                have h6 := (hk.fact 6 99 (by decide) rfl).pure
                have h11 := (hk.fact 11 104 (by decide) rfl).pure
                refine OpOut.fn (args := #[v2, .agg #[.string ⟨a.m.toArray⟩, .string ⟨a.n.toArray⟩, .int .i64 a.sg], .agg #[.slice none 0 0, .slice A2 a.ts.length c2], .slice a.Ag a.gs.length a.cg]) rfl (hk.func _) (by simp [h0, h5, h6, h11]) Tryd.func10 (by kernel_rfl) rfl ?_
                refine (HANS3.out W hw).mono ?_; rintro ee w5 ⟨A, c, rfl, g1, g2, g3, g4⟩
                exact ⟨_, rfl, g3.out, ⟨_, rfl, A, c, rfl, g1.out, fun ad' p1 p2 => by have := g2.out ad' p1 p2; have := hw.size; omega⟩, g4.out⟩
              · refine ObC.plain (by decide) rfl fun ρ W hk => ?_
                obtain ⟨wq, hq, ⟨u, e12, ho⟩, _⟩ := hk.fact 12 105 (by decide) rfl
                exact OpOut.move (.tmp 105) rfl ⟨Below.refl _ _, u, e12, ho.aonly hq (by omega)⟩
              · refine ObC.plain (by decide) rfl fun ρ W hk => ?_
                obtain ⟨wq, hq, u, e13, ho⟩ := hk.fact 13 92 (by decide) rfl
                exact OpOut.extract (x := .tmp 92) rfl e13 (by go_simp; try rfl) ⟨Below.refl _ _, ho.aonly hq (by omega)⟩
              · refine ObC.plain (by decide) rfl fun ρ W hk => ?_
                obtain ⟨wq, hq, u, e13, ho⟩ := hk.fact 13 92 (by decide) rfl
                exact OpOut.extract (x := .tmp 92) rfl e13 (by go_simp; try rfl) ⟨Below.refl _ _, rfl⟩
              · refine ObC.plain (by decide) rfl fun ρ W hk => ?_
                obtain ⟨wq, hq, ho⟩ := hk.fact 14 106 (by decide) rfl
                exact OpOut.assign (.tmp 106) rfl ⟨Below.refl _ _, OutF.aonly ho hq (by omega)⟩
              · refine ObC.plain (by decide) rfl fun ρ W hk => ?_
                have h15 := (hk.fact 15 107 (by decide) rfl).pure
                exact OpOut.assign (.tmp 107) rfl ⟨Below.refl _ _, h15⟩
            · intro vs W4 hb hf hcf
              obtain ⟨wq, hq, ho⟩ := hf 16 (by decide)
              have hout : OutF E2 ol (vs 16) W4 := OutF.aonly ho hq (by omega)
              have e17 := (hf 17 (by decide)).pure
              obtain ⟨wp, hp, _, hst⟩ := hcf
              have hst2 := hst.below hp
              have HO2 := hide hout; have HSB := hide hst2; have HAO2 := hide hb
              clear hf ho hq hout hst hst2 hp hb
              simp only [fillL]
              rw [e17]
              generalize vs 0 = vy0, vs 1 = vy1, vs 2 = vy2, vs 3 = vy3, vs 4 = vy4, vs 5 = vy5, vs 6 = vy6, vs 7 = vy7, vs 8 = vy8, vs 9 = vy9, vs 10 = vy10, vs 11 = vy11, vs 12 = vy12, vs 13 = vy13, vs 14 = vy14, vs 15 = vy15, vs 16 = vy16 at *
              clear e17
              go_frame
            --ENDASK
              have hfin : Hid (Below B0 w W4) := HBW3.out.trans (HBW2.out.trans (HAO2.out.below (by omega) (by omega)))
              have HSA4 : Hid (Hst W4 B1 E1 v1 st') := HSA.out.other HAO2.out (.inl (Nat.le_refl _))
              have hs4 : E2 ≤ W4.heap.size := by have := HAO2.out.size; omega
              obtain ⟨P1, d1, rfl, p1, _⟩ := HO1.out.aonly HAO2.out (Nat.le_refl _)
              obtain ⟨P2, d2, rfl, p2, _⟩ := HO2.out
              have HP1 := hide p1; have HP2 := hide p2
              have hqq : (q != q) = false := by simp
              clear p1 p2 HO1 HO2 HAO HAO2 HSA HB4 HT2 HRT2 HBW2 hs2 HAT2 HANS3 HBW3 HLOE h1 ha hgu
              generalize hll : ol.length = L at *
              go_wp2_with fail
              go_loopw [15] (fun k w1 => ∃ i : Nat, k = .int .i64 i ∧ i ≤ L ∧ Hid (Below W4.heap.size W4 w1)) (fun k _ => L - (intOf k).toNat)
              case atStart => exact ⟨0, rfl, by omega, Below.refl _ _⟩
              case round =>
                obtain ⟨i, rfl, hi, hbi⟩ := hrel
                by_cases hil : i < L
                · have hp1 := HP1.out.below hbi.out
                  have hp2 := HP2.out.below hbi.out
                  rw [← hll] at hp1 hp2
                  obtain ⟨a1, x, rfl, hx1, hc1⟩ := hp1.elem (k := i) (by rw [hll]; exact hil)
                  obtain ⟨a2, y, rfl, hy1, hc2⟩ := hp2.elem (k := i) (by rw [hll]; exact hil)
                  have hxy : y = x := by have := hx1.out.symm.trans hy1.out; injection this with this; exact this.symm
                  subst hxy
                  have hk0 : (0 : Int) ≤ (i : Int) := by omega
                  unfold U at hc1 hc2
                  clear hp1 hp2 hx1 hy1
                  go_wp2_with fail
                  go_quiet (fail)
                  go_wp2_with fail
                  go_roundw
                  case rel => exact ⟨i + 1, by go_num, by omega, below_drewN3 hbi.out _⟩
                  case measure => simp [intOf] <;> omega
                · go_wp2_with fail
                  go_roundw
                  case rel => exact ⟨j + 1, st', by go_num, by omega, HSA4.out.below hbi.out, HSB.out.below hbi.out, HFW', hfin.out.trans (hbi.out.mono (by omega)), by have := hbi.out.size; omega⟩
                  case measure => simp [intOf] <;> omega
    · clear h1
      have HT1 := hide (total_all B1 E1 v1 st wr HS1 (by intro rs' qs' e q' hq'; have := HFW.out rs' qs' e q' hq'; omega))
      have HT2 := hide (fun W (h : Below wr.heap.size wr W) => total_all B1 E1 v1 st W (HS1.out.below h) (by intro rs' qs' e q' hq'; have := HFW.out rs' qs' e q' hq'; omega))
      have HT3 := hide (fun W (h : Below wr.heap.size wr W) => total_all E1 E2 v2 st W (HS2.out.below h) (by intro rs' qs' e q' hq'; have := HFW.out rs' qs' e q' hq'; omega))
      generalize totS st = tt at *
      have htt : ((tt : Int) == (tt : Int)) = true := by simp
      go_wp2_with fail
      refine (answer_nothing wr).mono ?_; rintro e w2 ⟨rfl, g2⟩
      go_wp2_with fail
      refine (rule_nothing w2).mono ?_; rintro e w3 ⟨rfl, g3⟩
      have g23 := g2.out.trans (g3.out.mono g2.out.size)
      go_wp2_with fail
      refine (HT2.out w3 g23).mono ?_; rintro e w4 ⟨rfl, rfl⟩
      go_wp2_with fail
      refine (HT3.out w3 g23).mono ?_; rintro e w4 ⟨rfl, rfl⟩
      go_wp2_with fail
      refine (total_none w3).mono ?_; rintro e w4 ⟨rfl, rfl⟩
      go_wp2_with fail
      refine (asked_none 0 w3).mono ?_; rintro e w4 ⟨rfl, rfl⟩
      go_wp2_with fail
      go_ret
      exact ⟨rfl, by rw [HB0.out]; exact HBR.out.trans (g23.mono (by omega))⟩
end Go.Proofs.YtnfaaiifbiobiaaDoor
