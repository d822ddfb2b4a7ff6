/-
  types: signatures told, and the same: contracts.
-/
import Derived.Test.YthpnfdbfdbjpcaaDoorTypes
import Derived.Test.YthpnfdbfdbjpcaaDoorShelf
import Derived.Test.YthpnfdbfdbjpcaaDoorStrs
import Derived.Test.YthpnfdbfdbjpcaaDoorRegionT
import Derived.Deep.QuietTactic
import Derived.BigQuiet
namespace Go.Proofs.YthpnfdbfdbjpcaaDoor
open Go.RowKit
set_option linter.unusedVariables false

theorem add_at0 (g j : Nat) : (⟨g, 0, none⟩ : Addr).add j = ⟨g, 0 + j, none⟩ := by
  unfold Addr.add
  split <;> simp_all
/-- types, told -/
def listL (ts : List UInt8) : List UInt8 := 40 :: (Lib.join (ts.map nameL) [44] ++ [41])
theorem nameL_len (t : UInt8) : (nameL t).length ≤ 3 := by
  unfold nameL
  split
  · simp
  · split <;> simp
theorem str_elem : IsElem Tryd.prog 47 9 1 16 := IsElem.mk' Tryd.underlying47 (z := .string ByteArray.empty) (by kernel_rfl) rfl (by omega)
def S (l : List UInt8) : Value := .string ⟨l.toArray⟩
theorem join_len : ∀ (xs : List (List UInt8)), (∀ x ∈ xs, x.length ≤ 3) → (Lib.join xs [44]).length ≤ 4 * xs.length := by
  intro xs h
  cases xs with
  | nil => rw [Lib.join_nil]; simp
  | cons x r =>
    rw [Lib.join_cons]
    have h1 := h x (by simp)
    have h2 : ∀ (r : List (List UInt8)), (∀ y ∈ r, y.length ≤ 3) → (Lib.joinTail [44] r).length ≤ 4 * r.length := by
      intro r
      induction r with
      | nil => intro _; simp [Lib.joinTail]
      | cons y r ih =>
        intro hr
        have h3 := ih (fun z hz => hr z (by simp [hz]))
        have h4 := hr y (by simp)
        unfold Lib.joinTail at h3 ⊢
        simp only [List.map_cons, List.flatten_cons, List.length_append, List.length_cons, List.length_nil] at h3 ⊢
        omega
    have h5 := h2 r (fun y hy => h y (by simp [hy]))
    rw [List.length_append, List.length_cons]
    omega
theorem listL_len (ts : List UInt8) : (listL ts).length ≤ 4 * ts.length + 2 := by
  have h := join_len (ts.map nameL) (fun x hx => by obtain ⟨t, _, rfl⟩ := List.mem_map.1 hx; exact nameL_len t)
  rw [List.length_map] at h
  unfold listL
  simp only [List.length_cons, List.length_append, List.length_nil]
  omega

set_option maxHeartbeats 1600000 in
theorem list_any (A : Option Addr) (cap : Nat) (ts : List UInt8) (w : World) (hr : Hid (Reads w w.heap.size 1 A ts.length (ts.map B))) (hl : ts.length ≤ 1000) :
    Calls Tryd.prog 25 #[.slice A ts.length cap] w fun e w' => e = .returned (.string ⟨(listL ts).toArray⟩) ∧ Below w.heap.size w w' := by
  obtain ⟨base, hbase⟩ : ∃ b, w.heap.size = b := ⟨_, rfl⟩
  have HBA := hide hbase
  rw [hbase] at hr
  clear hbase
  go_enter Tryd.func25, Tryd.ntmps25
  go_wp2_with fail
  go_loopw [3, 5, 8] (fun v _ i w1 => ∃ k : Nat, i = .int .i64 k ∧ k ≤ ts.length ∧ Hid (w1.ownsRow base 9 1 v k ((ts.take k).map fun t => S (nameL t))) ∧ Hid (Below base w w1) ∧ base ≤ w1.heap.size) (fun _ _ i _ => ts.length - (intOf i).toNat)
  case atStart => exact ⟨0, rfl, by omega, own_nil _ _ _ _, Below.refl _ _, by rw [HBA.out]; omega⟩
  case round =>
    obtain ⟨k, rfl, hk, ho, hb, hbs⟩ := hrel
    by_cases hlt : k < ts.length
    · obtain ⟨ad, c, rfl, hc, hcell, hc0, hc1⟩ := hr.out.byte (k := k) hlt
      have hcell2 := (hb.out.cell (p := ad.add k) (by rw [block_of_add]; have := (hr.out.2 (by omega)); obtain ⟨ad', e', h', _⟩ := this; injection e' with e'; subst e'; exact h')).trans hcell
      have HN := hide (fun W => tname_any c W)
      have hst : ts.take (k + 1) = ts.take k ++ [c] := by rw [List.take_add_one, hc.out]; rfl
      have HST := hide hst
      have hroom : Room k 1 16 := room_of (by omega) (by omega)
      clear hcell hst
      obtain ⟨nm, hnm⟩ : ∃ q, nameL c = q := ⟨_, rfl⟩
      rw [hnm] at HN
      have HNM := hide hnm
      clear hnm
      go_wp2_with fail
      refine (HN.out _).mono ?_; rintro e w' ⟨rfl, rfl⟩
      go_wp2_with (at_builtin; refine wpList_push rfl _ _ rfl base str_elem _ k ((ts.take k).map fun t => S (nameL t)) rfl wr _ _ rfl ho.out rfl rfl hroom hbs ?_; intro v' w' ho' hg')
      go_roundw
      case rel =>
        refine ⟨k + 1, by go_num, by omega, ?_, hb.out.grown hg'.by_ hbs (own_ge ho.out), Nat.le_trans hbs hg'.by_.size⟩
        show World.ownsRow _ _ _ _ _ _ _
        rw [HST.out, List.map_append, List.map_singleton, HNM.out]
        exact ho'
      case measure => simp [intOf] <;> omega
    · have hkn : k = ts.length := by omega
      subst hkn
      clear hlt
      have hfull := ho.out
      rw [List.take_length] at hfull
      have hjl := listL_len ts
      have HJL := hide hjl
      have hjl2 : (Lib.join (ts.map nameL) [44]).length ≤ 4000 := by
        have h := join_len (ts.map nameL) (fun x hx => by obtain ⟨t, _, rfl⟩ := List.mem_map.1 hx; exact nameL_len t)
        rw [List.length_map] at h
        omega
      rcases Nat.eq_zero_or_pos ts.length with h0 | h0
      · have hnil : ts = [] := List.eq_nil_of_length_eq_zero h0
        subst hnil
        obtain ⟨A1, c1, hv, hc1, _⟩ := own_form hfull
        subst hv
        clear hfull ho hjl
        have HJ := hide (Tryd.strings_Join_none A1 c1 ⟨#[44]⟩ wr)
        go_wp2_with fail
        refine HJ.out.mono ?_; rintro e w2 ⟨rfl, rfl⟩
        go_wp2_with fail
        go_ret
        exact ⟨rfl, by rw [HBA.out]; exact hb.out⟩
      · obtain ⟨g, c1, hv, hg⟩ := hfull.form h0
        subst hv
        have hcap := (own_form hfull)
        obtain ⟨A9, c9, h9, h10, h11⟩ := hcap
        injection h9 with h9a h9c h9b
        subst h9a h9b
        clear h9c
        have hcells : ∀ (j : Nat) x, ((ts.map nameL).map fun l => (⟨l.toArray⟩ : ByteArray))[j]? = some x → wr.cell? ⟨g, 0 + j, none⟩ = some (.string x) := by
          intro j x hx
          have h := hfull.cells (g := g) rfl j (.string x) (by
            rw [List.getElem?_map] at hx ⊢
            rw [List.getElem?_map] at hx
            cases hj : ts[j]? with
            | none => rw [hj] at hx; simp at hx
            | some t => rw [hj] at hx; simp at hx; rw [← hx]; rfl)
          rw [add_at0] at h
          exact h
        have hj := Tryd.strings_Join g 0 c1 ((ts.map nameL).map fun l => (⟨l.toArray⟩ : ByteArray)) ⟨#[44]⟩ wr hcells hg.2 (by simp; omega) (by simp; exact h10) (by
          have : ((ts.map nameL).map fun l => (⟨l.toArray⟩ : ByteArray)).map (·.data.toList) = ts.map nameL := by simp
          rw [this]
          show (Lib.join (ts.map nameL) [44]).length ≤ _
          omega)
        rw [show ((ts.map nameL).map fun l => (⟨l.toArray⟩ : ByteArray)).map (·.data.toList) = ts.map nameL from by simp, show (⟨#[44]⟩ : ByteArray).data.toList = [44] from rfl, List.length_map, List.length_map] at hj
        have HJ := hide hj
        obtain ⟨jl, hjj⟩ : ∃ q, Lib.join (ts.map nameL) [44] = q := ⟨_, rfl⟩
        rw [hjj] at HJ hjl2
        have HJJ := hide hjj
        have hs1 : (⟨#[40]⟩ : ByteArray) ++ ⟨jl.toArray⟩ = ⟨(40 :: jl).toArray⟩ := str_cat [40] jl
        have hs2 : (⟨(40 :: jl).toArray⟩ : ByteArray) ++ ⟨#[41]⟩ = ⟨(40 :: jl ++ [41]).toArray⟩ := str_cat (40 :: jl) [41]
        clear hj hfull ho hjl hcells hjj
        go_wp2_with fail
        refine HJ.out.mono ?_; rintro e w2 ⟨rfl, hb2⟩
        have HB2 := hide hb2; clear hb2
        clear hg h10 h11 h0 hk hl
        go_wp2_with fail
        go_ret
        refine ⟨?_, by rw [HBA.out]; exact hb.out.trans (HB2.out.mono (by omega))⟩
        have hfin : listL ts = 40 :: jl ++ [41] := by unfold listL; rw [HJJ.out]; rfl
        rw [hfin]
        rfl

theorem print_len (ps rs : List UInt8) (h1 : ps.length ≤ 1000) (h2 : rs.length ≤ 1000) : (listL ps).length ≤ 4002 ∧ (listL rs).length ≤ 4002 := by
  have := listL_len ps
  have := listL_len rs
  omega
/-- a signature's text -/
def sigL (ps rs : List UInt8) : List UInt8 := listL ps ++ [45, 62] ++ listL rs

set_option maxHeartbeats 1600000 in
set_option maxRecDepth 100000 in
theorem print_any (v : Value) (ps rs : List UInt8) (w : World) (hv : Hid (SigIs w v ps rs)) (h1 : ps.length ≤ 1000) (h2 : rs.length ≤ 1000) :
    Calls Tryd.prog 12 #[v] w fun e w' => e = .returned (.string ⟨(sigL ps rs).toArray⟩) ∧ Below w.heap.size w w' := by
  obtain ⟨A1, c1, A2, c2, rfl, r1, r2⟩ := hv.out.ex
  obtain ⟨b0, hb0⟩ : ∃ b, w.heap.size = b := ⟨_, rfl⟩
  have hp := print_len ps rs h1 h2
  obtain ⟨w1, hw1⟩ : ∃ w1, w.alloc (.cells #[.slice A1 ps.length c1, .slice A2 rs.length c2] 38) = w1 := ⟨_, rfl⟩
  have hbw : Below w.heap.size w w1 := by rw [← hw1]; exact (Below.refl _ _).alloc (Nat.le_refl _) _
  have hs0 : b0 < w1.heap.size := by rw [← hw1, ← hb0]; simp
  have hc0 : w1.cell? ⟨b0, 0, none⟩ = some (.slice A1 ps.length c1) := by rw [← hw1, ← hb0, World.cell?_alloc_new]; rfl
  have hc1 : w1.cell? ⟨b0, 1, none⟩ = some (.slice A2 rs.length c2) := by rw [← hw1, ← hb0, World.cell?_alloc_new]; rfl
  have HC0 := hide hc0
  have HC1 := hide hc1
  have HB0 := hide hs0
  have HF1 := hide (fun W (h : Below w1.heap.size w1 W) => list_any A1 c1 ps W (by
    have h' : Below w.heap.size w W := hbw.trans (h.mono hbw.size)
    exact (r1.out.below h').more h'.size) h1)
  have HF2 := hide (fun W (h : Below w1.heap.size w1 W) => list_any A2 c2 rs W (by
    have h' : Below w.heap.size w W := hbw.trans (h.mono hbw.size)
    exact (r2.out.below h').more h'.size) h2)
  have HBW := hide hbw
  have HL1 := hide hp.1
  have HL2 := hide hp.2
  unfold sigL
  generalize ps.length = n1 at *
  generalize rs.length = n2 at *
  generalize listL ps = x1 at *
  generalize listL rs = x2 at *
  clear hc0 hc1 hs0 hbw hp
  go_enter Tryd.func12, Tryd.ntmps12
  go_wp2_with fail
  clear hw1
  --REGIONPR
  refine wp_region_factsR grew_ext (factsOf [fun yy _ => yy = .pointer (some ⟨b0, 0, none⟩),
    fun yy _ => yy = .slice A1 n1 c1,
    fun yy _ => yy = .string ⟨x1.toArray⟩,
    fun yy _ => yy = .string ⟨(x1 ++ [45, 62] : List UInt8).toArray⟩,
    fun yy _ => yy = .pointer (some ⟨b0, 1, none⟩),
    fun yy _ => yy = .slice A2 n2 c2,
    fun yy _ => yy = .string ⟨x2.toArray⟩,
    fun yy _ => yy = .string ⟨(x1 ++ [45, 62] ++ x2 : List UInt8).toArray⟩,
    fun yy _ => yy = .string ⟨(x1 ++ [45, 62] ++ x2 : List UInt8).toArray⟩]) (by kernel_rfl) (by kernel_rfl) ?_ ?_
  · refine ⟨?_, ?_, ?_, ?_, ?_, ?_, ?_, ?_, ?_, trivial⟩
    · refine ⟨fun ρ W hk => ?_⟩
      have o1 : ρ (.tmp 1) = .pointer (some ⟨b0, 0, none⟩) := hk.old 1 (by decide)
      exact OpOut.fieldAddr (x := .tmp 1) rfl o1 (by go_simp) ⟨Below.refl _ _, rfl⟩
    · refine ⟨fun ρ W hk => ?_⟩
      have h0 := (hk.fact 0 3 (by decide) rfl).pure
      have hc := (hk.below.cell (p := ⟨b0, 0, none⟩) HB0.out).trans HC0.out
      exact OpOut.load (x := .tmp 3) rfl h0 (by go_simp) ⟨Below.refl _ _, rfl⟩
    · refine ⟨fun ρ W hk => ?_⟩
      have h1 := (hk.fact 1 4 (by decide) rfl).pure
      refine OpOut.fn (args := #[.slice A1 n1 c1]) rfl (hk.func _) (by simp [h1]) Tryd.func25 (by kernel_rfl) rfl ?_
      refine (HF1.out W hk.below).mono ?_; rintro e w5 ⟨rfl, hb5⟩
      exact ⟨_, rfl, hb5, rfl⟩
    · refine ⟨fun ρ W hk => ?_⟩
      have h2 := (hk.fact 2 5 (by decide) rfl).pure
      exact OpOut.bin (x := .tmp 5) (y := .const (.string ⟨#[45, 62]⟩)) (v := .string ⟨(x1 ++ [45, 62] : List UInt8).toArray⟩) rfl (by rw [h2, hk.const]; go_simp) (by rw [h2, hk.const]; exact run_cat x1 [45, 62] _ _ (by have := HL1.out; simp only [List.length_cons, List.length_nil]; omega)) ⟨Below.refl _ _, rfl⟩
    · refine ⟨fun ρ W hk => ?_⟩
      have o1 : ρ (.tmp 1) = .pointer (some ⟨b0, 0, none⟩) := hk.old 1 (by decide)
      exact OpOut.fieldAddr (x := .tmp 1) rfl o1 (by go_simp) ⟨Below.refl _ _, rfl⟩
    · refine ⟨fun ρ W hk => ?_⟩
      have h4 := (hk.fact 4 7 (by decide) rfl).pure
      have hc := (hk.below.cell (p := ⟨b0, 1, none⟩) HB0.out).trans HC1.out
      exact OpOut.load (x := .tmp 7) rfl h4 (by go_simp) ⟨Below.refl _ _, rfl⟩
    · refine ⟨fun ρ W hk => ?_⟩
      have h5 := (hk.fact 5 8 (by decide) rfl).pure
      refine OpOut.fn (args := #[.slice A2 n2 c2]) rfl (hk.func _) (by simp [h5]) Tryd.func25 (by kernel_rfl) rfl ?_
      refine (HF2.out W hk.below).mono ?_; rintro e w5 ⟨rfl, hb5⟩
      exact ⟨_, rfl, hb5, rfl⟩
    · refine ⟨fun ρ W hk => ?_⟩
      have h3 := (hk.fact 3 6 (by decide) rfl).pure
      have h6 := (hk.fact 6 9 (by decide) rfl).pure
      exact OpOut.bin (x := .tmp 6) (y := .tmp 9) (v := .string ⟨(x1 ++ [45, 62] ++ x2 : List UInt8).toArray⟩) rfl (by rw [h3, h6]; go_simp) (by rw [h3, h6]; exact run_cat (x1 ++ [45, 62]) x2 _ _ (by have := HL1.out; have := HL2.out; simp only [List.length_append, List.length_cons, List.length_nil]; omega)) ⟨Below.refl _ _, rfl⟩
    · refine ⟨fun ρ W hk => ?_⟩
      have h7 := (hk.fact 7 10 (by decide) rfl).pure
      exact OpOut.assign (.tmp 10) rfl ⟨Below.refl _ _, h7⟩
  · intro vs W hb hf
    have h8 := (hf 8 (by decide)).pure
    clear hf
    simp only [fillL]
    go_frame
    rw [h8]
  --ENDPR
    have HBR := hide hb; clear hb h8
    generalize vs 0 = v0, vs 1 = v1, vs 2 = v2, vs 3 = v3, vs 4 = v4, vs 5 = v5, vs 6 = v6, vs 7 = v7
    go_wp2_with fail
    go_ret
    exact ⟨rfl, HBW.out.trans (HBR.out.mono HBW.out.size)⟩
end Go.Proofs.YthpnfdbfdbjpcaaDoor
