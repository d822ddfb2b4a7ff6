/-
  Law 11: what the laws' arguments are, and what the listed variables hold.
  Law 11: InstrApart: the walk. (Written by wip/gen-insm.py.)
-/
import Derived.Test.YtpanlhbdphobdaaGreatDoorDeBP
import Derived.Test.YtpanlhbdphobdaaGreatDoorDeBQ
namespace Go.Proofs.YtpanlhbdphobdaaGreatDoor
open Go.RowKit
set_option linter.unusedVariables false

/-- what the listed variables hold, one by one -/
structure LaidLF (w : World) : Prop where
  p10 : Tab w
  db : Tab2 w
  syn : ∃ tp p, w.cell? ⟨1, 0, none⟩ = some (.iface tp p)
  rng : ∃ tp p, w.cell? ⟨2, 0, none⟩ = some (.iface tp p)
  ml : ∃ m, w.cell? ⟨0, 0, none⟩ = some (.int .i64 m)
theorem LaidLF.i {w : World} (h : LaidLF w) : LaidI w := ⟨⟨h.p10, h.db, h.syn, h.rng⟩, h.ml⟩

theorem wfU {n : Int} (h : (Lit.int .u64 n).wf = true) : 0 ≤ n ∧ n ≤ 18446744073709551615 := by
  simpa [Lit.wf, IntKind.min, IntKind.max, IntKind.signed, IntKind.bits] using h
theorem wfI {n : Int} (h : (Lit.int .i64 n).wf = true) : -9223372036854775808 ≤ n ∧ n ≤ 9223372036854775807 := by
  simpa [Lit.wf, IntKind.min, IntKind.max, IntKind.signed, IntKind.bits] using h
def riX (x : RI) : XI := ⟨x.1, x.2.1.toNat, x.2.2.1.toNat, x.2.2.2.1, x.2.2.2.2.1.l.map Int.toNat⟩
theorem riX_len (x : RI) : (riX x).l.length = x.2.2.2.2.1.l.length := by simp [riX]
theorem riX_in {w : World} {x : RI} (h : riOk w x) : (riX x).In := by
  obtain ⟨h1, h2, h3, h4, h5, _⟩ := h
  have a := wfI h1; have b := wfU h2; have c := wfU h3; have d := wfI h4
  refine ⟨a.1, a.2, ?_, ?_, d.1, d.2, ?_⟩
  · show x.2.1.toNat < _; omega
  · show x.2.2.1.toNat < _; omega
  · intro n hn
    obtain ⟨m, hm, rfl⟩ := List.mem_map.1 hn
    have := wfU (h5.all m hm)
    omega
theorem u64D_flat (l : List Int) (h : ∀ n ∈ l, 0 ≤ n) : l.flatMap u64D = (l.map Int.toNat).map U := by
  induction l with
  | nil => rfl
  | cons n r ih =>
    rw [List.flatMap_cons, ih (fun m hm => h m (by simp [hm]))]
    have h0 := h n (by simp)
    simp only [u64D, List.map_cons, List.singleton_append, U]
    rw [show ((n.toNat : Nat) : Int) = n from by omega]
theorem riX_reads {w : World} {x : RI} (h : riOk w x) : Reads w w.heap.size 1 x.2.2.2.2.1.at_ (riX x).l.length ((riX x).l.map U) := by
  have h5 := h.2.2.2.2.1
  have := h5.reads
  rw [u64D_flat _ (fun n hn => (wfU (h5.all n hn)).1)] at this
  rw [riX_len]
  exact this
theorem riX_D {w : World} {x : RI} (h : riOk w x) : (riD x).toArray = #[.int .i64 (riX x).code, .int .u64 ((riX x).a : Int), .int .u64 ((riX x).b : Int), .int .i64 (riX x).al, .slice x.2.2.2.2.1.at_ (riX x).l.length x.2.2.2.2.1.cap] := by
  obtain ⟨h1, h2, h3, h4, h5, _⟩ := h
  have b := wfU h2; have c := wfU h3
  have e2 : ((riX x).a : Int) = x.2.1 := by show ((x.2.1.toNat : Nat) : Int) = _; omega
  have e3 : ((riX x).b : Int) = x.2.2.1 := by show ((x.2.2.1.toNat : Nat) : Int) = _; omega
  rw [e2, e3, riX_len]
  rfl
theorem riX_bd {w : World} {x : RI} (h : riOk w x) : (riX x).l.length ≤ 9223372036854775807 := by
  have := h.2.2.2.2.1.reach
  rw [riX_len]
  omega
set_option maxRecDepth 100000 in
theorem riX_opens {H : Type} {enc : TypeId × Value → H} {w : World} : Opens enc Tryz.prog w 25 riD (riOk w) :=
  Opens.struct Tryz.underlying25 (by kernel_rfl) (OpensF.cons (k := 1) rfl (by kernel_rfl) (Opens.int Tryz.underlying3) (OpensF.cons (k := 1) rfl (by kernel_rfl) (Opens.int Tryz.underlying22) (OpensF.cons (k := 1) rfl (by kernel_rfl) (Opens.int Tryz.underlying22)
      (OpensF.cons (k := 1) rfl (by kernel_rfl) (Opens.int Tryz.underlying3) (OpensF.cons (k := 1) rfl (by kernel_rfl) (Opens.slice (size := 1) (bytes := 8) Tryz.underlying23 (by kernel_rfl) (by kernel_rfl) (by omega) (fun _ => rfl) (Opens.int Tryz.underlying22)) OpensF.nil)))))
set_option maxRecDepth 100000 in
theorem run_uptoB (A : Option Addr) (n c k : Nat) (hk : k ≤ n) (hn : n ≤ c) (W : World) : (Instr.sliceAt 39 (.slice A n c) none (some (.int .i64 k)) none).run Tryz.prog W = .ok (.slice A k c) W := by
  have hk0 : (0 : Int) ≤ (k : Int) := by omega
  have hkc : (k : Int) ≤ (c : Int) := by omega
  have hm : A.map (fun x => x.add 0) = A := by cases A <;> simp [Addr.add]
  go_simp
theorem run_textB {w : World} {Bk : Nat} {A : Option Addr} {bs : List UInt8} (c : Nat) (h : Reads w Bk 1 A bs.length (bs.map B)) : (convert 39 9 (.slice A bs.length c)).run Tryz.prog w = .ok (.string ⟨bs.toArray⟩) w :=
  run_string_reads (bs := bs) _ _ 5 c Tryz.underlying39 Tryz.underlying5 Tryz.underlying9 h
end Go.Proofs.YtpanlhbdphobdaaGreatDoor

namespace Go.Proofs.YtpanlhbdphobdaaGreatDoor
open Go.RowKit
set_option linter.unusedVariables false

theorem run_loadX {w : World} {g cl : Nat} {x : XI} {A : Option Addr} (h : RXV w g x A cl) : (Instr.loadAt 25 (.pointer (some ⟨g, 0, none⟩))).run Tryz.prog w = .ok (.agg #[.int .i64 x.code, .int .u64 (x.a : Int), .int .u64 (x.b : Int), .int .i64 x.al, .slice A x.l.length cl]) w := by
  obtain ⟨l0, l1, l2, l3, l4⟩ := h.cs
  go_simp
theorem run_loadXV {w : World} {g cl : Nat} {x : XI} {A : Option Addr} (h : XV w g x A cl) : (Instr.loadAt 28 (.pointer (some ⟨g, 0, none⟩))).run Tryz.prog w = .ok (.agg #[.int .i64 x.code, .int .u64 (x.a : Int), .int .u64 (x.b : Int), .int .i64 x.al, .slice A x.l.length cl]) w := by
  obtain ⟨l0, l1, l2, l3, l4⟩ := h.cs
  go_simp
theorem run_neq_bool (q : Bool) (W : World) : (binOp .neq 4 (.bool q) (.bool q)).run Tryz.prog W = .ok (.bool false) W := by
  cases q <;> go_simp
theorem run_neq_strs {a b : List UInt8} (h : a ≠ b) (W : World) : (binOp .neq 9 (.string ⟨a.toArray⟩) (.string ⟨b.toArray⟩)).run Tryz.prog W = .ok (.bool true) W := by
  have hb : ((⟨a.toArray⟩ : ByteArray) == ⟨b.toArray⟩) = false := by
    show (a.toArray == b.toArray) = false
    simpa using h
  go_simp

theorem run_textN {w : World} {Bk : Nat} {A : Option Addr} {bs : List UInt8} (c n : Nat) (hn : n ≤ bs.length) (h : Reads w Bk 1 A bs.length (bs.map B)) : (convert 39 9 (.slice A n c)).run Tryz.prog w = .ok (.string ⟨(bs.take n).toArray⟩) w := by
  have h2 := h.upto hn
  rw [Nat.mul_one, ← List.map_take] at h2
  have hl : (bs.take n).length = n := by rw [List.length_take]; omega
  have := run_textB (bs := bs.take n) c (by rw [hl]; exact h2)
  rwa [hl] at this
theorem take_apart {a b : List UInt8} (h1 : ¬ a <+: b) (h2 : ¬ b <+: a) (n : Nat) (hn : n = a.length ∨ n = b.length) : a.take n ≠ b.take n := by
  intro he
  rcases hn with rfl | rfl
  · rw [List.take_length] at he
    exact h1 (he ▸ List.take_prefix _ _)
  · rw [List.take_length] at he
    exact h2 (he ▸ List.take_prefix _ _)
theorem apart_many (x y : XI) (A1 A2 : Option Addr) (c1 c2 : Nat) (w : World) (ht : Hid (LaidI w)) (b1 : x.l.length ≤ 9223372036854775807) (b2 : y.l.length ≤ 9223372036854775807) (h : 120 < x.l.length ∨ (x.l.length ≤ 120 ∧ 120 < y.l.length)) :
    Calls Tryz.prog 4 #[.agg #[.int .i64 x.code, .int .u64 (x.a : Int), .int .u64 (x.b : Int), .int .i64 x.al, .slice A1 x.l.length c1], .agg #[.int .i64 y.code, .int .u64 (y.a : Int), .int .u64 (y.b : Int), .int .i64 y.al, .slice A2 y.l.length c2]] w fun e w' => e = .returned (.bool true) ∧ Hid (Below w.heap.size w w') := by
  obtain ⟨W, hW⟩ : ∃ W, (w.alloc (.cells #[.int .i64 x.code, .int .u64 (x.a : Int), .int .u64 (x.b : Int), .int .i64 x.al, .slice A1 x.l.length c1] 25)).alloc (.cells #[.int .i64 y.code, .int .u64 (y.a : Int), .int .u64 (y.b : Int), .int .i64 y.al, .slice A2 y.l.length c2] 25) = W := ⟨_, rfl⟩
  obtain ⟨g, hg⟩ : ∃ g, w.heap.size = g := ⟨_, rfl⟩
  have hbW : Below g w W := by rw [← hW, ← hg]; exact ((Below.refl _ _).alloc (Nat.le_refl _) _).alloc (by simp) _
  have hx : RXV W g x A1 c1 := ⟨by rw [← hW, ← hg, Below.heap_alloc _ _ _ (by simp)]; exact heap_alloc_new w _⟩
  have hy : RXV W (g + 1) y A2 c2 := ⟨by
    rw [← hW, ← hg]
    have := heap_alloc_new (w.alloc (.cells #[.int .i64 x.code, .int .u64 (x.a : Int), .int .u64 (x.b : Int), .int .i64 x.al, .slice A1 x.l.length c1] 25)) (.cells #[.int .i64 y.code, .int .u64 (y.a : Int), .int .u64 (y.b : Int), .int .i64 y.al, .slice A2 y.l.length c2] 25)
    simpa using this⟩
  obtain ⟨l0, l1, l2, l3, l4⟩ := hx.cs
  obtain ⟨m0, m1, m2, m3, m4⟩ := hy.cs
  have HA := hide (awake11 W (hide (ht.out.below (by rw [hg]; exact hbW))))
  have HW := hide hW; have HB := hide hbW; have HG := hide hg
  clear hW hbW hg hx hy ht
  rcases h with h | ⟨h1, h⟩
  · go_enter Tryz.func4, Tryz.ntmps4
    go_upto_region 1 with fail
    rw [HW.out, HG.out]
    go_wp2_with fail
    refine HA.out.mono ?_; rintro e w1 ⟨rfl, h1⟩
    clear l0 l1 l2 l3 l4 m0 m1 m2 m3 m4
    go_wp2_with fail
    go_ret
    exact ⟨rfl, by rw [HG.out]; exact HB.out.trans (h1.out.mono (by have := HB.out.size; have := HG.out; omega))⟩
  · go_enter Tryz.func4, Tryz.ntmps4
    go_upto_region 1 with fail
    rw [HW.out, HG.out]
    go_wp2_with fail
    refine HA.out.mono ?_; rintro e w1 ⟨rfl, h1⟩
    clear l0 l1 l2 l3 l4 m0 m1 m2 m3 m4
    go_wp2_with fail
    go_ret
    exact ⟨rfl, by rw [HG.out]; exact HB.out.trans (h1.out.mono (by have := HB.out.size; have := HG.out; omega))⟩

set_option maxRecDepth 100000 in
set_option maxHeartbeats 6400000 in
theorem apart_few (x y : XI) (A1 A2 : Option Addr) (c1 c2 : Nat) (w : World) (ht : Hid (LaidI w)) (hix : Hid x.In) (hiy : Hid y.In) (r1 : Hid (Reads w w.heap.size 1 A1 x.l.length (x.l.map U))) (r2 : Hid (Reads w w.heap.size 1 A2 y.l.length (y.l.map U))) (b1 : x.l.length ≤ 120) (b2 : y.l.length ≤ 120) :
    Calls Tryz.prog 4 #[.agg #[.int .i64 x.code, .int .u64 (x.a : Int), .int .u64 (x.b : Int), .int .i64 x.al, .slice A1 x.l.length c1], .agg #[.int .i64 y.code, .int .u64 (y.a : Int), .int .u64 (y.b : Int), .int .i64 y.al, .slice A2 y.l.length c2]] w fun e w' => e = .returned (.bool true) ∧ Hid (Below w.heap.size w w') := by
  obtain ⟨W, hW⟩ : ∃ W, (w.alloc (.cells #[.int .i64 x.code, .int .u64 (x.a : Int), .int .u64 (x.b : Int), .int .i64 x.al, .slice A1 x.l.length c1] 25)).alloc (.cells #[.int .i64 y.code, .int .u64 (y.a : Int), .int .u64 (y.b : Int), .int .i64 y.al, .slice A2 y.l.length c2] 25) = W := ⟨_, rfl⟩
  obtain ⟨g, hg⟩ : ∃ g, w.heap.size = g := ⟨_, rfl⟩
  have hbW : Below g w W := by rw [← hW, ← hg]; exact ((Below.refl _ _).alloc (Nat.le_refl _) _).alloc (by simp) _
  have hsz : W.heap.size = g + 2 := by rw [← hW, ← hg]; simp
  have hx : RXV W g x A1 c1 := ⟨by rw [← hW, ← hg, Below.heap_alloc _ _ _ (by simp)]; exact heap_alloc_new w _⟩
  have hy : RXV W (g + 1) y A2 c2 := ⟨by
    rw [← hW, ← hg]
    have := heap_alloc_new (w.alloc (.cells #[.int .i64 x.code, .int .u64 (x.a : Int), .int .u64 (x.b : Int), .int .i64 x.al, .slice A1 x.l.length c1] 25)) (.cells #[.int .i64 y.code, .int .u64 (y.a : Int), .int .u64 (y.b : Int), .int .i64 y.al, .slice A2 y.l.length c2] 25)
    simpa using this⟩
  obtain ⟨l0, l1, l2, l3, l4⟩ := hx.cs
  obtain ⟨m0, m1, m2, m3, m4⟩ := hy.cs
  rw [hg] at r1 r2
  have R1 : Hid (Reads W W.heap.size 1 A1 x.l.length (x.l.map U)) := (r1.out.below hbW).more (by omega)
  have R2 : Hid (Reads W W.heap.size 1 A2 y.l.length (y.l.map U)) := (r2.out.below hbW).more (by omega)
  have HA := hide (awake11 W (hide (ht.out.below (by rw [hg]; exact hbW))))
  have RS := hide (fun V (h : Below W.heap.size W V) => rsame2_any x y A1 A2 c1 c2 V (hide ((R1.out.below h).more h.size)) (hide ((R2.out.below h).more h.size)) (by omega) (by omega))
  have T1 := hide (fun V (h : Below W.heap.size W V) => toX_any x A1 c1 V (hide ((R1.out.below h).more h.size)) (by omega))
  have T2 := hide (fun V (h : Below W.heap.size W V) => toX_any y A2 c2 V (hide ((R2.out.below h).more h.size)) (by omega))
  have Q1 := hide (fun V (h : Below W.heap.size W V) => rright_any x A1 c1 V hix (hide ((R1.out.below h).more h.size)) (by omega))
  have Q2 := hide (fun V (h : Below W.heap.size W V) => rright_any y A2 c2 V hiy (hide ((R2.out.below h).more h.size)) (by omega))
  have IS := hide (fun V B1 B2 d1 d2 (h1 : Reads V V.heap.size 1 B1 x.l.length (x.l.map U)) (h2 : Reads V V.heap.size 1 B2 y.l.length (y.l.map U)) => isame2_any x y B1 B2 d1 d2 V (hide h1) (hide h2) (by omega) (by omega))
  have E1 := hide (fun (hq : rightX x = true) V Bz dz (h1 : Reads V V.heap.size 1 Bz x.l.length (x.l.map U)) => encode_yes x Bz dz V hix (hide h1) (by omega) (hide hq))
  have E2 := hide (fun (hq : rightX y = true) V Bz dz (h1 : Reads V V.heap.size 1 Bz y.l.length (y.l.map U)) => encode_yes y Bz dz V hiy (hide h1) (by omega) (hide hq))
  have HQ := hide (fun (h1 : rightX x = true) (h2 : rightX y = true) (h3 : sameX x y = false) => (⟨fun hp => by rw [enc_apart x y hix.out hiy.out h1 h2 hp, sameX_refl] at h3; simp at h3, fun hp => by rw [enc_apart y x hiy.out hix.out h2 h1 hp, sameX_refl] at h3; simp at h3⟩ : ¬ encX x <+: encX y ∧ ¬ encX y <+: encX x))
  have HS := hide (fun (h3 : sameX x y = true) => congrArg encX ((sameX_iff x y).1 h3))
  have HW := hide hW; have HB := hide hbW; have HG := hide hg; have HX := hide hx; have HY := hide hy
  have HGW : Hid (g < W.heap.size ∧ g + 1 < W.heap.size) := ⟨by omega, by omega⟩
  clear hW hbW hg hx hy ht r1 r2 R1 R2 hsz hix hiy
  obtain ⟨q, hq⟩ : ∃ q, sameX x y = q := ⟨_, rfl⟩
  obtain ⟨p1, hp1⟩ : ∃ q, rightX x = q := ⟨_, rfl⟩
  obtain ⟨p2, hp2⟩ : ∃ q, rightX y = q := ⟨_, rfl⟩
  rw [hq] at RS IS HS HQ
  rw [hp1] at Q1 E1 HQ
  rw [hp2] at Q2 E2 HQ
  clear hq hp1 hp2
  have FIN : ∀ V, Below W.heap.size W V → Below w.heap.size w V := fun V h => by rw [HG.out]; exact HB.out.trans (h.mono (by have := HGW.out; omega))
  have HFIN := hide FIN
  clear FIN
  go_enter Tryz.func4, Tryz.ntmps4
  go_upto_region 1 with fail
  rw [HW.out, HG.out]
  go_wp2_with fail
  refine HA.out.mono ?_; rintro e w1 ⟨rfl, h1⟩
  have HB1 : Hid (Below W.heap.size W w1) := h1.out
  clear l0 l1 l2 l3 l4 m0 m1 m2 m3 m4
  obtain ⟨l0, l1, l2, l3, l4⟩ := (HX.out.below HB1.out HGW.out.1).cs
  obtain ⟨m0, m1, m2, m3, m4⟩ := (HY.out.below HB1.out HGW.out.2).cs
  clear HA
  go_wp2_with fail
  refine (RS.out _ HB1.out).mono ?_; rintro e w2 ⟨rfl, h2⟩
  have HB2 : Hid (Below W.heap.size W w2) := HB1.out.trans (h2.out.mono HB1.out.size)
  clear l0 l1 l2 l3 l4 m0 m1 m2 m3 m4
  obtain ⟨l0, l1, l2, l3, l4⟩ := (HX.out.below HB2.out HGW.out.1).cs
  obtain ⟨m0, m1, m2, m3, m4⟩ := (HY.out.below HB2.out HGW.out.2).cs
  clear RS
  go_upto_region 4 with fail
  refine wp_region_factsR grew_ext (factsOf [fun yy _ => yy = .agg #[.int .i64 x.code, .int .u64 (x.a : Int), .int .u64 (x.b : Int), .int .i64 x.al, .slice A1 x.l.length c1],
    fun yy WW => ∃ Az cz, yy = .agg #[.int .i64 x.code, .int .u64 (x.a : Int), .int .u64 (x.b : Int), .int .i64 x.al, .slice Az x.l.length cz] ∧ WW.ownsRow w2.heap.size 22 1 (.slice Az x.l.length cz) x.l.length (x.l.map U),
    fun yy _ => yy = .agg #[.int .i64 y.code, .int .u64 (y.a : Int), .int .u64 (y.b : Int), .int .i64 y.al, .slice A2 y.l.length c2],
    fun yy WW => ∃ Az cz, yy = .agg #[.int .i64 y.code, .int .u64 (y.a : Int), .int .u64 (y.b : Int), .int .i64 y.al, .slice Az y.l.length cz] ∧ WW.ownsRow w2.heap.size 22 1 (.slice Az y.l.length cz) y.l.length (y.l.map U),
    fun yy _ => yy = .bool q,
    fun yy _ => yy = .bool q,
    fun yy _ => yy = .bool false]) (by kernel_rfl) (by kernel_rfl) ?_ ?_
  · refine ⟨?_, ?_, ?_, ?_, ?_, ?_, ?_, trivial⟩
    · refine ⟨fun ρ W3 hk => ?_⟩
      have o2 : ρ (.tmp 2) = .pointer (some ⟨g, 0, none⟩) := hk.old 2 (by decide)
      have hv := (HX.out.below (HB2.out.trans (hk.below.mono HB2.out.size)) HGW.out.1)
      exact OpOut.load (x := .tmp 2) rfl o2 (run_loadX hv) ⟨Below.refl _ _, rfl⟩
    · refine ⟨fun ρ W3 hk => ?_⟩
      have h0 := (hk.fact 0 29 (by decide) rfl).pure
      refine OpOut.fn (args := #[.agg #[.int .i64 x.code, .int .u64 (x.a : Int), .int .u64 (x.b : Int), .int .i64 x.al, .slice A1 x.l.length c1]]) rfl (hk.func _) (by simp [h0]) Tryz.func10 (by kernel_rfl) rfl ?_
      refine (T1.out W3 (HB2.out.trans (hk.below.mono HB2.out.size))).mono ?_; rintro e w5 ⟨Az, cz, rfl, ho5, hb5⟩
      exact ⟨_, rfl, hb5.out, Az, cz, rfl, own_base ho5.out (fun q hq => by have := own_ge ho5.out q hq; have := hk.below.size; omega)⟩
    · refine ⟨fun ρ W3 hk => ?_⟩
      have o3 : ρ (.tmp 3) = .pointer (some ⟨g + 1, 0, none⟩) := hk.old 3 (by decide)
      have hv := (HY.out.below (HB2.out.trans (hk.below.mono HB2.out.size)) HGW.out.2)
      exact OpOut.load (x := .tmp 3) rfl o3 (run_loadX hv) ⟨Below.refl _ _, rfl⟩
    · refine ⟨fun ρ W3 hk => ?_⟩
      have h2 := (hk.fact 2 31 (by decide) rfl).pure
      refine OpOut.fn (args := #[.agg #[.int .i64 y.code, .int .u64 (y.a : Int), .int .u64 (y.b : Int), .int .i64 y.al, .slice A2 y.l.length c2]]) rfl (hk.func _) (by simp [h2]) Tryz.func10 (by kernel_rfl) rfl ?_
      refine (T2.out W3 (HB2.out.trans (hk.below.mono HB2.out.size))).mono ?_; rintro e w5 ⟨Az, cz, rfl, ho5, hb5⟩
      exact ⟨_, rfl, hb5.out, Az, cz, rfl, own_base ho5.out (fun q hq => by have := own_ge ho5.out q hq; have := hk.below.size; omega)⟩
    · refine ⟨fun ρ W3 hk => ?_⟩
      obtain ⟨u1, hu1, Az1, cz1, h1, ho1⟩ := hk.fact 1 30 (by decide) rfl
      obtain ⟨u3, hu3, Az3, cz3, h3, ho3⟩ := hk.fact 3 32 (by decide) rfl
      refine OpOut.fn (args := #[.agg #[.int .i64 x.code, .int .u64 (x.a : Int), .int .u64 (x.b : Int), .int .i64 x.al, .slice Az1 x.l.length cz1], .agg #[.int .i64 y.code, .int .u64 (y.a : Int), .int .u64 (y.b : Int), .int .i64 y.al, .slice Az3 y.l.length cz3]]) rfl (hk.func _) (by simp [h1, h3]) Tryz.func16 (by kernel_rfl) rfl ?_
      have q1 := Reads.of_own (own_only3 (S := []) ho1 (Only.of_below hu1) (by simp))
      have q3 := Reads.of_own (own_only3 (S := []) ho3 (Only.of_below hu3) (by simp))
      refine (IS.out W3 Az1 Az3 cz1 cz3 q1 q3).mono ?_; rintro e w5 ⟨rfl, hb5⟩
      exact ⟨_, rfl, hb5.out, rfl⟩
    · refine ⟨fun ρ W3 hk => ?_⟩
      have o5 : ρ (.tmp 5) = .bool q := hk.old 5 (by decide)
      exact OpOut.move (.tmp 5) rfl ⟨Below.refl _ _, o5⟩
    · refine ⟨fun ρ W3 hk => ?_⟩
      have h4 := (hk.fact 4 33 (by decide) rfl).pure
      have h5 := (hk.fact 5 34 (by decide) rfl).pure
      exact OpOut.bin (x := .tmp 33) (y := .tmp 34) (v := .bool false) rfl (by rw [h4, h5]; go_simp) (by rw [h4, h5]; exact run_neq_bool q W3) ⟨Below.refl _ _, rfl⟩
  intro vs w3 hb hf
  have h6 := (hf 6 (by decide)).pure
  clear hf
  simp only [fillL]
  go_frame
  rw [h6]
  have h3 := hide hb
  clear hb
  have HB3 : Hid (Below W.heap.size W w3) := HB2.out.trans (h3.out.mono HB2.out.size)
  clear l0 l1 l2 l3 l4 m0 m1 m2 m3 m4
  obtain ⟨l0, l1, l2, l3, l4⟩ := (HX.out.below HB3.out HGW.out.1).cs
  obtain ⟨m0, m1, m2, m3, m4⟩ := (HY.out.below HB3.out HGW.out.2).cs
  go_wp2_with fail
  refine (Q1.out _ HB3.out).mono ?_; rintro e w4 ⟨rfl, h4⟩
  have HB4 : Hid (Below W.heap.size W w4) := HB3.out.trans (h4.out.mono HB3.out.size)
  clear l0 l1 l2 l3 l4 m0 m1 m2 m3 m4
  obtain ⟨l0, l1, l2, l3, l4⟩ := (HX.out.below HB4.out HGW.out.1).cs
  obtain ⟨m0, m1, m2, m3, m4⟩ := (HY.out.below HB4.out HGW.out.2).cs
  cases p1 with
  | false => go_wp2_with fail; go_ret; exact ⟨rfl, HFIN.out _ HB4.out⟩
  | true =>
  go_wp2_with fail
  refine (Q2.out _ HB4.out).mono ?_; rintro e w5 ⟨rfl, h5⟩
  have HB5 : Hid (Below W.heap.size W w5) := HB4.out.trans (h5.out.mono HB4.out.size)
  clear l0 l1 l2 l3 l4 m0 m1 m2 m3 m4
  obtain ⟨l0, l1, l2, l3, l4⟩ := (HX.out.below HB5.out HGW.out.1).cs
  obtain ⟨m0, m1, m2, m3, m4⟩ := (HY.out.below HB5.out HGW.out.2).cs
  cases p2 with
  | false => go_wp2_with fail; go_ret; exact ⟨rfl, HFIN.out _ HB5.out⟩
  | true =>
  go_wp2_with fail
  refine (T1.out _ HB5.out).mono ?_; rintro e w6 ⟨A6, c6, rfl, ho6, h6⟩
  have HB6 : Hid (Below W.heap.size W w6) := HB5.out.trans (h6.out.mono HB5.out.size)
  clear l0 l1 l2 l3 l4 m0 m1 m2 m3 m4
  obtain ⟨l0, l1, l2, l3, l4⟩ := (HX.out.below HB6.out HGW.out.1).cs
  obtain ⟨m0, m1, m2, m3, m4⟩ := (HY.out.below HB6.out HGW.out.2).cs
  go_wp2_with fail
  refine (E1.out trivial _ A6 c6 (Reads.of_own ho6.out)).mono ?_; rintro e w7 ⟨v7, rfl, ho7, h7⟩
  have HB7 : Hid (Below W.heap.size W w7) := HB6.out.trans (h7.out.mono HB6.out.size)
  clear l0 l1 l2 l3 l4 m0 m1 m2 m3 m4
  obtain ⟨l0, l1, l2, l3, l4⟩ := (HX.out.below HB7.out HGW.out.1).cs
  obtain ⟨m0, m1, m2, m3, m4⟩ := (HY.out.below HB7.out HGW.out.2).cs
  obtain ⟨B1, d1, hv, hd1, hd2⟩ := own_form ho7.out
  subst hv
  have OA0 := hide hd1
  have OA1 := hide hd2
  have RA : Hid (Reads w7 w7.heap.size 1 B1 (encX x).length ((encX x).map B)) := Reads.of_own ho7.out
  clear ho6 ho7 hd1 hd2
  go_wp2_with fail
  refine (T2.out _ HB7.out).mono ?_; rintro e w8 ⟨A8, c8, rfl, ho8, h8⟩
  have HB8 : Hid (Below W.heap.size W w8) := HB7.out.trans (h8.out.mono HB7.out.size)
  clear l0 l1 l2 l3 l4 m0 m1 m2 m3 m4
  obtain ⟨l0, l1, l2, l3, l4⟩ := (HX.out.below HB8.out HGW.out.1).cs
  obtain ⟨m0, m1, m2, m3, m4⟩ := (HY.out.below HB8.out HGW.out.2).cs
  go_wp2_with fail
  refine (E2.out trivial _ A8 c8 (Reads.of_own ho8.out)).mono ?_; rintro e w9 ⟨v9, rfl, ho9, h9⟩
  have HB9 : Hid (Below W.heap.size W w9) := HB8.out.trans (h9.out.mono HB8.out.size)
  clear l0 l1 l2 l3 l4 m0 m1 m2 m3 m4
  obtain ⟨l0, l1, l2, l3, l4⟩ := (HX.out.below HB9.out HGW.out.1).cs
  obtain ⟨m0, m1, m2, m3, m4⟩ := (HY.out.below HB9.out HGW.out.2).cs
  obtain ⟨B2, d2, hv, hd1, hd2⟩ := own_form ho9.out
  subst hv
  have OB0 := hide hd1
  have RB : Hid (Reads w9 w9.heap.size 1 B2 (encX y).length ((encX y).map B)) := Reads.of_own ho9.out
  have RA9 : Hid (Reads w9 w9.heap.size 1 B1 (encX x).length ((encX x).map B)) := (RA.out.below (h8.out.trans (h9.out.mono h8.out.size))).more (Nat.le_trans h8.out.size h9.out.size)
  have hl1 : (encX x).length ≤ 9223372036854775807 := by have := OA0.out; have := OA1.out; unfold maxLen at this; omega
  have hl2 : (encX y).length ≤ 9223372036854775807 := by have := OB0.out; unfold maxLen at hd2; omega
  have FINW := HFIN.out _ HB9.out
  have HF9 := hide FINW
  clear FINW RA ho8 ho9 hd1 hd2 T1 T2 E1 E2 Q1 Q2 IS HX HY HW l0 l1 l2 l3 l4 m0 m1 m2 m3 m4
  generalize encX x = ex at *
  generalize encX y = ey at *
  cases q with
  | true =>
    obtain rfl := HS.out rfl
    have s1 := run_textB d1 RA9.out
    have s2 := run_textB d2 RB.out
    go_wp2_with fail
    go_ret
    exact ⟨by simp, HF9⟩
  | false =>
    obtain ⟨p1, p2⟩ := HQ.out trivial trivial rfl
    rcases Nat.lt_or_ge ey.length ex.length with hle | hle
    · have HN : Hid (ey.length ≤ ex.length ∧ ey.length ≤ ey.length ∧ ex.take ey.length ≠ ey.take ey.length) := ⟨by omega, by omega, take_apart p1 p2 _ (.inr rfl)⟩
      have SA := hide (fun V (h : Below w9.heap.size w9 V) => run_textN d1 (ey.length) HN.out.1 (RA9.out.below h))
      have SB := hide (fun V (h : Below w9.heap.size w9 V) => run_textN d2 (ey.length) HN.out.2.1 (RB.out.below h))
      have hmn : min (ex.length : Int) (ey.length : Int) = ((ey.length : Nat) : Int) := by omega
      go_upto_region 15 with fail
      refine wp_region_factsR grew_ext (factsOf [fun yy _ => yy = .slice B1 ex.length d1,
        fun yy _ => yy = .int .i64 (ey.length : Nat),
        fun yy _ => yy = .slice B1 ey.length d1,
        fun yy _ => yy = .string ⟨(ex.take ey.length).toArray⟩,
        fun yy _ => yy = .slice B2 ey.length d2,
        fun yy _ => yy = .int .i64 (ey.length : Nat),
        fun yy _ => yy = .slice B2 ey.length d2,
        fun yy _ => yy = .string ⟨(ey.take ey.length).toArray⟩,
        fun yy _ => yy = .bool true,
        fun yy _ => yy = .bool true]) (by kernel_rfl) (by kernel_rfl) ?_ ?_
      · refine ⟨?_, ?_, ?_, ?_, ?_, ?_, ?_, ?_, ?_, ?_, trivial⟩
        · refine ⟨fun ρ W3 hk => ?_⟩
          have o6 : ρ (.tmp 6) = .slice B1 ex.length d1 := hk.old 6 (by decide)
          exact OpOut.move (.tmp 6) rfl ⟨Below.refl _ _, o6⟩
        · refine ⟨fun ρ W3 hk => ?_⟩
          have o10 : ρ (.tmp 10) = .int .i64 (ey.length : Nat) := hk.old 10 (by decide)
          exact OpOut.move (.tmp 10) rfl ⟨Below.refl _ _, o10⟩
        · refine ⟨fun ρ W3 hk => ?_⟩
          have h0 := (hk.fact 0 73 (by decide) rfl).pure
          have h1 := (hk.fact 1 74 (by decide) rfl).pure
          exact OpOut.sliceTo (x := .tmp 73) (y := .tmp 74) rfl h0 h1 (run_uptoB B1 _ _ (ey.length) HN.out.1 OA0.out W3) ⟨Below.refl _ _, rfl⟩
        · refine ⟨fun ρ W3 hk => ?_⟩
          have h2 := (hk.fact 2 75 (by decide) rfl).pure
          exact OpOut.conv (x := .tmp 75) rfl (by rw [h2]; exact SA.out W3 hk.below) ⟨Below.refl _ _, rfl⟩
        · refine ⟨fun ρ W3 hk => ?_⟩
          have o8 : ρ (.tmp 8) = .slice B2 ey.length d2 := hk.old 8 (by decide)
          exact OpOut.move (.tmp 8) rfl ⟨Below.refl _ _, o8⟩
        · refine ⟨fun ρ W3 hk => ?_⟩
          have o10 : ρ (.tmp 10) = .int .i64 (ey.length : Nat) := hk.old 10 (by decide)
          exact OpOut.move (.tmp 10) rfl ⟨Below.refl _ _, o10⟩
        · refine ⟨fun ρ W3 hk => ?_⟩
          have h4 := (hk.fact 4 77 (by decide) rfl).pure
          have h5 := (hk.fact 5 78 (by decide) rfl).pure
          exact OpOut.sliceTo (x := .tmp 77) (y := .tmp 78) rfl h4 h5 (run_uptoB B2 _ _ (ey.length) HN.out.2.1 OB0.out W3) ⟨Below.refl _ _, rfl⟩
        · refine ⟨fun ρ W3 hk => ?_⟩
          have h6 := (hk.fact 6 79 (by decide) rfl).pure
          exact OpOut.conv (x := .tmp 79) rfl (by rw [h6]; exact SB.out W3 hk.below) ⟨Below.refl _ _, rfl⟩
        · refine ⟨fun ρ W3 hk => ?_⟩
          have h3 := (hk.fact 3 76 (by decide) rfl).pure
          have h7 := (hk.fact 7 80 (by decide) rfl).pure
          exact OpOut.bin (x := .tmp 76) (y := .tmp 80) (v := .bool true) rfl (by rw [h3, h7]; go_simp) (by rw [h3, h7]; exact run_neq_strs HN.out.2.2 W3) ⟨Below.refl _ _, rfl⟩
        · refine ⟨fun ρ W3 hk => ?_⟩
          have h8 := (hk.fact 8 81 (by decide) rfl).pure
          exact OpOut.assign (.tmp 81) rfl ⟨Below.refl _ _, h8⟩
      intro vs w10 hb hf
      have h9 := (hf 9 (by decide)).pure
      clear hf
      simp only [fillL]
      go_frame
      rw [h9]
      have h10 := hide hb
      clear hb
      go_wp2_with fail
      go_ret
      exact ⟨rfl, HF9.out.trans (h10.out.mono HF9.out.size)⟩
    · have HN : Hid (ex.length ≤ ex.length ∧ ex.length ≤ ey.length ∧ ex.take ex.length ≠ ey.take ex.length) := ⟨by omega, by omega, take_apart p1 p2 _ (.inl rfl)⟩
      have SA := hide (fun V (h : Below w9.heap.size w9 V) => run_textN d1 (ex.length) HN.out.1 (RA9.out.below h))
      have SB := hide (fun V (h : Below w9.heap.size w9 V) => run_textN d2 (ex.length) HN.out.2.1 (RB.out.below h))
      have hmn : min (ex.length : Int) (ey.length : Int) = ((ex.length : Nat) : Int) := by omega
      go_upto_region 15 with fail
      refine wp_region_factsR grew_ext (factsOf [fun yy _ => yy = .slice B1 ex.length d1,
        fun yy _ => yy = .int .i64 (ex.length : Nat),
        fun yy _ => yy = .slice B1 ex.length d1,
        fun yy _ => yy = .string ⟨(ex.take ex.length).toArray⟩,
        fun yy _ => yy = .slice B2 ey.length d2,
        fun yy _ => yy = .int .i64 (ex.length : Nat),
        fun yy _ => yy = .slice B2 ex.length d2,
        fun yy _ => yy = .string ⟨(ey.take ex.length).toArray⟩,
        fun yy _ => yy = .bool true,
        fun yy _ => yy = .bool true]) (by kernel_rfl) (by kernel_rfl) ?_ ?_
      · refine ⟨?_, ?_, ?_, ?_, ?_, ?_, ?_, ?_, ?_, ?_, trivial⟩
        · refine ⟨fun ρ W3 hk => ?_⟩
          have o6 : ρ (.tmp 6) = .slice B1 ex.length d1 := hk.old 6 (by decide)
          exact OpOut.move (.tmp 6) rfl ⟨Below.refl _ _, o6⟩
        · refine ⟨fun ρ W3 hk => ?_⟩
          have o10 : ρ (.tmp 10) = .int .i64 (ex.length : Nat) := hk.old 10 (by decide)
          exact OpOut.move (.tmp 10) rfl ⟨Below.refl _ _, o10⟩
        · refine ⟨fun ρ W3 hk => ?_⟩
          have h0 := (hk.fact 0 73 (by decide) rfl).pure
          have h1 := (hk.fact 1 74 (by decide) rfl).pure
          exact OpOut.sliceTo (x := .tmp 73) (y := .tmp 74) rfl h0 h1 (run_uptoB B1 _ _ (ex.length) HN.out.1 OA0.out W3) ⟨Below.refl _ _, rfl⟩
        · refine ⟨fun ρ W3 hk => ?_⟩
          have h2 := (hk.fact 2 75 (by decide) rfl).pure
          exact OpOut.conv (x := .tmp 75) rfl (by rw [h2]; exact SA.out W3 hk.below) ⟨Below.refl _ _, rfl⟩
        · refine ⟨fun ρ W3 hk => ?_⟩
          have o8 : ρ (.tmp 8) = .slice B2 ey.length d2 := hk.old 8 (by decide)
          exact OpOut.move (.tmp 8) rfl ⟨Below.refl _ _, o8⟩
        · refine ⟨fun ρ W3 hk => ?_⟩
          have o10 : ρ (.tmp 10) = .int .i64 (ex.length : Nat) := hk.old 10 (by decide)
          exact OpOut.move (.tmp 10) rfl ⟨Below.refl _ _, o10⟩
        · refine ⟨fun ρ W3 hk => ?_⟩
          have h4 := (hk.fact 4 77 (by decide) rfl).pure
          have h5 := (hk.fact 5 78 (by decide) rfl).pure
          exact OpOut.sliceTo (x := .tmp 77) (y := .tmp 78) rfl h4 h5 (run_uptoB B2 _ _ (ex.length) HN.out.2.1 OB0.out W3) ⟨Below.refl _ _, rfl⟩
        · refine ⟨fun ρ W3 hk => ?_⟩
          have h6 := (hk.fact 6 79 (by decide) rfl).pure
          exact OpOut.conv (x := .tmp 79) rfl (by rw [h6]; exact SB.out W3 hk.below) ⟨Below.refl _ _, rfl⟩
        · refine ⟨fun ρ W3 hk => ?_⟩
          have h3 := (hk.fact 3 76 (by decide) rfl).pure
          have h7 := (hk.fact 7 80 (by decide) rfl).pure
          exact OpOut.bin (x := .tmp 76) (y := .tmp 80) (v := .bool true) rfl (by rw [h3, h7]; go_simp) (by rw [h3, h7]; exact run_neq_strs HN.out.2.2 W3) ⟨Below.refl _ _, rfl⟩
        · refine ⟨fun ρ W3 hk => ?_⟩
          have h8 := (hk.fact 8 81 (by decide) rfl).pure
          exact OpOut.assign (.tmp 81) rfl ⟨Below.refl _ _, h8⟩
      intro vs w10 hb hf
      have h9 := (hf 9 (by decide)).pure
      clear hf
      simp only [fillL]
      go_frame
      rw [h9]
      have h10 := hide hb
      clear hb
      go_wp2_with fail
      go_ret
      exact ⟨rfl, HF9.out.trans (h10.out.mono HF9.out.size)⟩
end Go.Proofs.YtpanlhbdphobdaaGreatDoor
