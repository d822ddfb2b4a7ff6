/-
  op: the tables, as lists; what a code is: in plain Lean.
  op: what a code is, plainly; types, info: contracts.
  op: a row's info: contract.
  op: Foreign, Numeric: contracts; what a code is, plainly.
  op: numbered, at, Find: contracts.
  op: at, Find: contracts.
-/
import Derived.Test.YtdhmkapknaphpaaRows
import Derived.Test.YtdhmkapknaphpaaRowTab
import Derived.Outline
import Derived.Test.YtdhmkapknaphpaaBase
import Derived.Maps.RangeWalk
import Derived.Lib.OthersKept
import Derived.IntWalk
import Derived.Test.YtdhmkapknaphpaaRegionT
import Derived.Deep.QuietTactic
import Derived.BigQuiet
import Derived.Test.YtdhmkapknaphpaaArgs
namespace Go.Proofs.Ytdhmkapknaphpaa
open Go.RowKit
set_option linter.unusedVariables false

/-- a row of the table of instructions -/
structure OpRow where
  code : Int
  name : ByteArray
  form : Int
  takes : ByteArray
  gives : ByteArray
/-- numeric instructions, one behind the other -/
structure OpSpan where
  first : Int
  many : Int
  group : Int
  bits : Int
  base : Int
def OpRow.D (r : OpRow) : List Value := [.int .i64 r.code, .string r.name, .int .i64 r.form, .string r.takes, .string r.gives]
def OpSpan.D (r : OpSpan) : List Value := [.int .i64 r.first, .int .i64 r.many, .int .i64 r.group, .int .i64 r.bits, .int .i64 r.base]
def strD (s : ByteArray) : List Value := [.string s]
def forD (x : Int × Int) : List Value := [.int .i64 x.1, .int .i64 x.2]
def opRows1 : List OpRow := [
  ⟨0, ⟨#[117, 110, 114, 101, 97, 99, 104, 97, 98, 108, 101]⟩, 0, ⟨#[]⟩, ⟨#[]⟩⟩,
  ⟨1, ⟨#[110, 111, 112]⟩, 0, ⟨#[]⟩, ⟨#[]⟩⟩,
  ⟨2, ⟨#[98, 108, 111, 99, 107]⟩, 1, ⟨#[]⟩, ⟨#[]⟩⟩,
  ⟨3, ⟨#[108, 111, 111, 112]⟩, 1, ⟨#[]⟩, ⟨#[]⟩⟩,
  ⟨4, ⟨#[105, 102]⟩, 1, ⟨#[]⟩, ⟨#[]⟩⟩,
  ⟨5, ⟨#[101, 108, 115, 101]⟩, 0, ⟨#[]⟩, ⟨#[]⟩⟩,
  ⟨11, ⟨#[101, 110, 100]⟩, 0, ⟨#[]⟩, ⟨#[]⟩⟩,
  ⟨12, ⟨#[98, 114]⟩, 2, ⟨#[]⟩, ⟨#[]⟩⟩,
  ⟨13, ⟨#[98, 114, 95, 105, 102]⟩, 2, ⟨#[]⟩, ⟨#[]⟩⟩,
  ⟨14, ⟨#[98, 114, 95, 116, 97, 98, 108, 101]⟩, 3, ⟨#[]⟩, ⟨#[]⟩⟩,
  ⟨15, ⟨#[114, 101, 116, 117, 114, 110]⟩, 0, ⟨#[]⟩, ⟨#[]⟩⟩,
  ⟨16, ⟨#[99, 97, 108, 108]⟩, 4, ⟨#[]⟩, ⟨#[]⟩⟩,
  ⟨17, ⟨#[99, 97, 108, 108, 95, 105, 110, 100, 105, 114, 101, 99, 116]⟩, 5, ⟨#[]⟩, ⟨#[]⟩⟩,
  ⟨26, ⟨#[100, 114, 111, 112]⟩, 0, ⟨#[]⟩, ⟨#[]⟩⟩,
  ⟨27, ⟨#[115, 101, 108, 101, 99, 116]⟩, 0, ⟨#[]⟩, ⟨#[]⟩⟩,
  ⟨32, ⟨#[108, 111, 99, 97, 108, 46, 103, 101, 116]⟩, 6, ⟨#[]⟩, ⟨#[]⟩⟩,
  ⟨33, ⟨#[108, 111, 99, 97, 108, 46, 115, 101, 116]⟩, 6, ⟨#[]⟩, ⟨#[]⟩⟩,
  ⟨34, ⟨#[108, 111, 99, 97, 108, 46, 116, 101, 101]⟩, 6, ⟨#[]⟩, ⟨#[]⟩⟩,
  ⟨35, ⟨#[103, 108, 111, 98, 97, 108, 46, 103, 101, 116]⟩, 7, ⟨#[]⟩, ⟨#[]⟩⟩,
  ⟨36, ⟨#[103, 108, 111, 98, 97, 108, 46, 115, 101, 116]⟩, 7, ⟨#[]⟩, ⟨#[]⟩⟩,
  ⟨40, ⟨#[105, 51, 50, 46, 108, 111, 97, 100]⟩, 8, ⟨#[105]⟩, ⟨#[105]⟩⟩,
  ⟨41, ⟨#[105, 54, 52, 46, 108, 111, 97, 100]⟩, 8, ⟨#[105]⟩, ⟨#[108]⟩⟩,
  ⟨44, ⟨#[105, 51, 50, 46, 108, 111, 97, 100, 56, 95, 115]⟩, 8, ⟨#[105]⟩, ⟨#[105]⟩⟩,
  ⟨45, ⟨#[105, 51, 50, 46, 108, 111, 97, 100, 56, 95, 117]⟩, 8, ⟨#[105]⟩, ⟨#[105]⟩⟩,
  ⟨46, ⟨#[105, 51, 50, 46, 108, 111, 97, 100, 49, 54, 95, 115]⟩, 8, ⟨#[105]⟩, ⟨#[105]⟩⟩,
  ⟨47, ⟨#[105, 51, 50, 46, 108, 111, 97, 100, 49, 54, 95, 117]⟩, 8, ⟨#[105]⟩, ⟨#[105]⟩⟩,
  ⟨48, ⟨#[105, 54, 52, 46, 108, 111, 97, 100, 56, 95, 115]⟩, 8, ⟨#[105]⟩, ⟨#[108]⟩⟩,
  ⟨49, ⟨#[105, 54, 52, 46, 108, 111, 97, 100, 56, 95, 117]⟩, 8, ⟨#[105]⟩, ⟨#[108]⟩⟩,
  ⟨50, ⟨#[105, 54, 52, 46, 108, 111, 97, 100, 49, 54, 95, 115]⟩, 8, ⟨#[105]⟩, ⟨#[108]⟩⟩,
  ⟨51, ⟨#[105, 54, 52, 46, 108, 111, 97, 100, 49, 54, 95, 117]⟩, 8, ⟨#[105]⟩, ⟨#[108]⟩⟩,
  ⟨52, ⟨#[105, 54, 52, 46, 108, 111, 97, 100, 51, 50, 95, 115]⟩, 8, ⟨#[105]⟩, ⟨#[108]⟩⟩,
  ⟨53, ⟨#[105, 54, 52, 46, 108, 111, 97, 100, 51, 50, 95, 117]⟩, 8, ⟨#[105]⟩, ⟨#[108]⟩⟩,
  ⟨54, ⟨#[105, 51, 50, 46, 115, 116, 111, 114, 101]⟩, 8, ⟨#[105, 105]⟩, ⟨#[]⟩⟩,
  ⟨55, ⟨#[105, 54, 52, 46, 115, 116, 111, 114, 101]⟩, 8, ⟨#[105, 108]⟩, ⟨#[]⟩⟩,
  ⟨58, ⟨#[105, 51, 50, 46, 115, 116, 111, 114, 101, 56]⟩, 8, ⟨#[105, 105]⟩, ⟨#[]⟩⟩,
  ⟨59, ⟨#[105, 51, 50, 46, 115, 116, 111, 114, 101, 49, 54]⟩, 8, ⟨#[105, 105]⟩, ⟨#[]⟩⟩,
  ⟨60, ⟨#[105, 54, 52, 46, 115, 116, 111, 114, 101, 56]⟩, 8, ⟨#[105, 108]⟩, ⟨#[]⟩⟩,
  ⟨61, ⟨#[105, 54, 52, 46, 115, 116, 111, 114, 101, 49, 54]⟩, 8, ⟨#[105, 108]⟩, ⟨#[]⟩⟩,
  ⟨62, ⟨#[105, 54, 52, 46, 115, 116, 111, 114, 101, 51, 50]⟩, 8, ⟨#[105, 108]⟩, ⟨#[]⟩⟩,
  ⟨63, ⟨#[109, 101, 109, 111, 114, 121, 46, 115, 105, 122, 101]⟩, 9, ⟨#[]⟩, ⟨#[105]⟩⟩,
  ⟨64, ⟨#[109, 101, 109, 111, 114, 121, 46, 103, 114, 111, 119]⟩, 9, ⟨#[105]⟩, ⟨#[105]⟩⟩,
  ⟨65, ⟨#[105, 51, 50, 46, 99, 111, 110, 115, 116]⟩, 11, ⟨#[]⟩, ⟨#[105]⟩⟩,
  ⟨66, ⟨#[105, 54, 52, 46, 99, 111, 110, 115, 116]⟩, 11, ⟨#[]⟩, ⟨#[108]⟩⟩,
  ⟨167, ⟨#[105, 51, 50, 46, 119, 114, 97, 112, 95, 105, 54, 52]⟩, 0, ⟨#[108]⟩, ⟨#[105]⟩⟩,
  ⟨172, ⟨#[105, 54, 52, 46, 101, 120, 116, 101, 110, 100, 95, 105, 51, 50, 95, 115]⟩, 0, ⟨#[105]⟩, ⟨#[108]⟩⟩,
  ⟨173, ⟨#[105, 54, 52, 46, 101, 120, 116, 101, 110, 100, 95, 105, 51, 50, 95, 117]⟩, 0, ⟨#[105]⟩, ⟨#[108]⟩⟩,
  ⟨192, ⟨#[105, 51, 50, 46, 101, 120, 116, 101, 110, 100, 56, 95, 115]⟩, 0, ⟨#[105]⟩, ⟨#[105]⟩⟩]
def opRows2 : List OpRow := [
  ⟨193, ⟨#[105, 51, 50, 46, 101, 120, 116, 101, 110, 100, 49, 54, 95, 115]⟩, 0, ⟨#[105]⟩, ⟨#[105]⟩⟩,
  ⟨194, ⟨#[105, 54, 52, 46, 101, 120, 116, 101, 110, 100, 56, 95, 115]⟩, 0, ⟨#[108]⟩, ⟨#[108]⟩⟩,
  ⟨195, ⟨#[105, 54, 52, 46, 101, 120, 116, 101, 110, 100, 49, 54, 95, 115]⟩, 0, ⟨#[108]⟩, ⟨#[108]⟩⟩,
  ⟨196, ⟨#[105, 54, 52, 46, 101, 120, 116, 101, 110, 100, 51, 50, 95, 115]⟩, 0, ⟨#[108]⟩, ⟨#[108]⟩⟩,
  ⟨64522, ⟨#[109, 101, 109, 111, 114, 121, 46, 99, 111, 112, 121]⟩, 10, ⟨#[105, 105, 105]⟩, ⟨#[]⟩⟩,
  ⟨64523, ⟨#[109, 101, 109, 111, 114, 121, 46, 102, 105, 108, 108]⟩, 9, ⟨#[105, 105, 105]⟩, ⟨#[]⟩⟩]
def opSpans : List OpSpan := [⟨69, 1, 2, 32, 3⟩, ⟨70, 10, 1, 32, 0⟩, ⟨80, 1, 2, 64, 3⟩, ⟨81, 10, 1, 64, 0⟩, ⟨103, 3, 2, 32, 0⟩, ⟨106, 15, 0, 32, 0⟩, ⟨121, 3, 2, 64, 0⟩, ⟨124, 15, 0, 64, 0⟩]
def opBin : List ByteArray := [⟨#[97, 100, 100]⟩, ⟨#[115, 117, 98]⟩, ⟨#[109, 117, 108]⟩, ⟨#[100, 105, 118, 95, 115]⟩, ⟨#[100, 105, 118, 95, 117]⟩, ⟨#[114, 101, 109, 95, 115]⟩, ⟨#[114, 101, 109, 95, 117]⟩, ⟨#[97, 110, 100]⟩, ⟨#[111, 114]⟩, ⟨#[120, 111, 114]⟩, ⟨#[115, 104, 108]⟩, ⟨#[115, 104, 114, 95, 115]⟩, ⟨#[115, 104, 114, 95, 117]⟩, ⟨#[114, 111, 116, 108]⟩, ⟨#[114, 111, 116, 114]⟩]
def opTst : List ByteArray := [⟨#[101, 113]⟩, ⟨#[110, 101]⟩, ⟨#[108, 116, 95, 115]⟩, ⟨#[108, 116, 95, 117]⟩, ⟨#[103, 116, 95, 115]⟩, ⟨#[103, 116, 95, 117]⟩, ⟨#[108, 101, 95, 115]⟩, ⟨#[108, 101, 95, 117]⟩, ⟨#[103, 101, 95, 115]⟩, ⟨#[103, 101, 95, 117]⟩]
def opUna : List ByteArray := [⟨#[99, 108, 122]⟩, ⟨#[99, 116, 122]⟩, ⟨#[112, 111, 112, 99, 110, 116]⟩, ⟨#[101, 113, 122]⟩]
def opFor : List (Int × Int) := [(28, 28), (37, 38), (42, 43), (56, 57), (67, 68), (91, 102), (139, 166), (168, 171), (174, 191), (208, 210), (253, 253), (64512, 64519), (64520, 64521), (64524, 64526), (64527, 64529)]

theorem opRows2_tab : IsTab Try.prog 175 164 6 5 := ⟨Try.underlying175, by kernel_rfl, by kernel_rfl, fun _ => by kernel_rfl⟩
set_option maxHeartbeats 400000 in
set_option maxRecDepth 100000 in
theorem late_any (w : World) : Calls Try.prog 85 #[] w fun e w' => e = .returned (.agg (opRows2.flatMap OpRow.D).toArray) ∧ Hid (Below w.heap.size w w') := by
  have hb : Below w.heap.size w (w.alloc (.cells (opRows2.flatMap OpRow.D).toArray 175)) := (Below.refl _ _).alloc (Nat.le_refl _) _
  have hg := heap_alloc_new w (.cells (opRows2.flatMap OpRow.D).toArray 175)
  obtain ⟨z, hz, hzs, hsz⟩ := opRows2_tab.zero
  have hc : (opRows2.flatMap OpRow.D).toArray.size = 6 * 5 := by rfl
  have h1 : (opRows2.flatMap OpRow.D).toArray.all (·.oneCell') = true := all_one (fun a u hu => by simp [OpRow.D] at hu; rcases hu with rfl | rfl | rfl | rfl | rfl <;> rfl) _
  obtain ⟨C, hC⟩ : ∃ C, (opRows2.flatMap OpRow.D).toArray = C := ⟨_, rfl⟩
  rw [hC] at hb hg hc h1 ⊢
  have HZS := hide (hzs.trans hc.symm); have HSZ := hide (hsz.trans (congrArg some hc.symm)); have HB := hide hb; have HG := hide hg; have H1 := hide h1
  clear hzs hsz hc hb hg h1
  have HC := hide hC; clear hC
  go_enter Try.func85, Try.ntmps85
  go_wp2_with (first
    | (refine wpList_build_rows rfl 175 _ rfl opRows2_tab OpRow.D (fun _ => rfl) opRows2 rfl (by as_aux_lemma => rfl) ?_; rw [HC.out])
    | (refine wpList_store_row rfl 175 _ _ rfl w.heap.size C rfl rfl 175 _ (heap_alloc_new w _) HSZ.out HZS.out H1.out ?_; rw [World.setRow_alloc_new]))
  refine bodyPost_ret (v := .agg C) ?_ rfl ⟨rfl, HB.out⟩
  exact results_cell_row rfl _ _ _ _ _ _ _ rfl HG.out Try.underlying175 rfl HSZ.out
theorem opRows1_tab : IsTab Try.prog 173 164 47 5 := ⟨Try.underlying173, by kernel_rfl, by kernel_rfl, fun _ => by kernel_rfl⟩
set_option maxHeartbeats 6400000 in
set_option maxRecDepth 100000 in
theorem rows_any (w : World) : Calls Try.prog 84 #[] w fun e w' => e = .returned (.agg (opRows1.flatMap OpRow.D).toArray) ∧ Hid (Below w.heap.size w w') := by
  have hb : Below w.heap.size w (w.alloc (.cells (opRows1.flatMap OpRow.D).toArray 173)) := (Below.refl _ _).alloc (Nat.le_refl _) _
  have hg := heap_alloc_new w (.cells (opRows1.flatMap OpRow.D).toArray 173)
  obtain ⟨z, hz, hzs, hsz⟩ := opRows1_tab.zero
  have hc : (opRows1.flatMap OpRow.D).toArray.size = 47 * 5 := by rfl
  have h1 : (opRows1.flatMap OpRow.D).toArray.all (·.oneCell') = true := all_one (fun a u hu => by simp [OpRow.D] at hu; rcases hu with rfl | rfl | rfl | rfl | rfl <;> rfl) _
  obtain ⟨C, hC⟩ : ∃ C, (opRows1.flatMap OpRow.D).toArray = C := ⟨_, rfl⟩
  rw [hC] at hb hg hc h1 ⊢
  have HZS := hide (hzs.trans hc.symm); have HSZ := hide (hsz.trans (congrArg some hc.symm)); have HB := hide hb; have HG := hide hg; have H1 := hide h1
  clear hzs hsz hc hb hg h1
  have HC := hide hC; clear hC
  go_enter Try.func84, Try.ntmps84
  go_wp2_with (first
    | (refine wpList_build_rows rfl 173 _ rfl opRows1_tab OpRow.D (fun _ => rfl) opRows1 rfl (by as_aux_lemma => rfl) ?_; rw [HC.out])
    | (refine wpList_store_row rfl 173 _ _ rfl w.heap.size C rfl rfl 173 _ (heap_alloc_new w _) HSZ.out HZS.out H1.out ?_; rw [World.setRow_alloc_new]))
  refine bodyPost_ret (v := .agg C) ?_ rfl ⟨rfl, HB.out⟩
  exact results_cell_row rfl _ _ _ _ _ _ _ rfl HG.out Try.underlying173 rfl HSZ.out
theorem opSpans_tab : IsTab Try.prog 197 196 8 5 := ⟨Try.underlying197, by kernel_rfl, by kernel_rfl, fun _ => by kernel_rfl⟩
set_option maxHeartbeats 400000 in
set_option maxRecDepth 100000 in
theorem spans_tab (w : World) : Calls Try.prog 98 #[] w fun e w' => e = .returned (.agg (opSpans.flatMap OpSpan.D).toArray) ∧ Hid (Below w.heap.size w w') := by
  have hb : Below w.heap.size w (w.alloc (.cells (opSpans.flatMap OpSpan.D).toArray 197)) := (Below.refl _ _).alloc (Nat.le_refl _) _
  have hg := heap_alloc_new w (.cells (opSpans.flatMap OpSpan.D).toArray 197)
  obtain ⟨z, hz, hzs, hsz⟩ := opSpans_tab.zero
  have hc : (opSpans.flatMap OpSpan.D).toArray.size = 8 * 5 := by rfl
  have h1 : (opSpans.flatMap OpSpan.D).toArray.all (·.oneCell') = true := all_one (fun a u hu => by simp [OpSpan.D] at hu; rcases hu with rfl | rfl | rfl | rfl | rfl <;> rfl) _
  obtain ⟨C, hC⟩ : ∃ C, (opSpans.flatMap OpSpan.D).toArray = C := ⟨_, rfl⟩
  rw [hC] at hb hg hc h1 ⊢
  have HZS := hide (hzs.trans hc.symm); have HSZ := hide (hsz.trans (congrArg some hc.symm)); have HB := hide hb; have HG := hide hg; have H1 := hide h1
  clear hzs hsz hc hb hg h1
  have HC := hide hC; clear hC
  go_enter Try.func98, Try.ntmps98
  go_wp2_with (first
    | (refine wpList_build_rows rfl 197 _ rfl opSpans_tab OpSpan.D (fun _ => rfl) opSpans rfl (by as_aux_lemma => rfl) ?_; rw [HC.out])
    | (refine wpList_store_row rfl 197 _ _ rfl w.heap.size C rfl rfl 197 _ (heap_alloc_new w _) HSZ.out HZS.out H1.out ?_; rw [World.setRow_alloc_new]))
  refine bodyPost_ret (v := .agg C) ?_ rfl ⟨rfl, HB.out⟩
  exact results_cell_row rfl _ _ _ _ _ _ _ rfl HG.out Try.underlying197 rfl HSZ.out
theorem opFor_tab : IsTab Try.prog 169 168 15 2 := ⟨Try.underlying169, by kernel_rfl, by kernel_rfl, fun _ => by kernel_rfl⟩
set_option maxHeartbeats 400000 in
set_option maxRecDepth 100000 in
theorem foreign_tab (w : World) : Calls Try.prog 80 #[] w fun e w' => e = .returned (.agg (opFor.flatMap forD).toArray) ∧ Hid (Below w.heap.size w w') := by
  have hb : Below w.heap.size w (w.alloc (.cells (opFor.flatMap forD).toArray 169)) := (Below.refl _ _).alloc (Nat.le_refl _) _
  have hg := heap_alloc_new w (.cells (opFor.flatMap forD).toArray 169)
  obtain ⟨z, hz, hzs, hsz⟩ := opFor_tab.zero
  have hc : (opFor.flatMap forD).toArray.size = 15 * 2 := by rfl
  have h1 : (opFor.flatMap forD).toArray.all (·.oneCell') = true := all_one (fun a u hu => by simp [forD] at hu; rcases hu with rfl | rfl <;> rfl) _
  obtain ⟨C, hC⟩ : ∃ C, (opFor.flatMap forD).toArray = C := ⟨_, rfl⟩
  rw [hC] at hb hg hc h1 ⊢
  have HZS := hide (hzs.trans hc.symm); have HSZ := hide (hsz.trans (congrArg some hc.symm)); have HB := hide hb; have HG := hide hg; have H1 := hide h1
  clear hzs hsz hc hb hg h1
  have HC := hide hC; clear hC
  go_enter Try.func80, Try.ntmps80
  go_wp2_with (first
    | (refine wpList_build_rows rfl 169 _ rfl opFor_tab forD (fun _ => rfl) opFor rfl (by as_aux_lemma => rfl) ?_; rw [HC.out])
    | (refine wpList_store_row rfl 169 _ _ rfl w.heap.size C rfl rfl 169 _ (heap_alloc_new w _) HSZ.out HZS.out H1.out ?_; rw [World.setRow_alloc_new]))
  refine bodyPost_ret (v := .agg C) ?_ rfl ⟨rfl, HB.out⟩
  exact results_cell_row rfl _ _ _ _ _ _ _ rfl HG.out Try.underlying169 rfl HSZ.out
set_option maxHeartbeats 400000 in
theorem bin_tab (w : World) : Calls Try.prog 92 #[] w fun e w' => e = .returned (.agg (opBin.flatMap strD).toArray) ∧ Hid (Below w.heap.size w w') := by
  go_enter Try.func92, Try.ntmps92
  go_wp2_with fail
  refine bodyPost_ret (v := .agg (opBin.flatMap strD).toArray) (by simp [results, Try.results92, go_sem, opBin, strD]) rfl ⟨rfl, ?_⟩
  exact (Below.refl _ _).alloc (Nat.le_refl _) _
set_option maxHeartbeats 400000 in
theorem tst_tab (w : World) : Calls Try.prog 93 #[] w fun e w' => e = .returned (.agg (opTst.flatMap strD).toArray) ∧ Hid (Below w.heap.size w w') := by
  go_enter Try.func93, Try.ntmps93
  go_wp2_with fail
  refine bodyPost_ret (v := .agg (opTst.flatMap strD).toArray) (by simp [results, Try.results93, go_sem, opTst, strD]) rfl ⟨rfl, ?_⟩
  exact (Below.refl _ _).alloc (Nat.le_refl _) _
set_option maxHeartbeats 400000 in
theorem una_tab (w : World) : Calls Try.prog 94 #[] w fun e w' => e = .returned (.agg (opUna.flatMap strD).toArray) ∧ Hid (Below w.heap.size w w') := by
  go_enter Try.func94, Try.ntmps94
  go_wp2_with fail
  refine bodyPost_ret (v := .agg (opUna.flatMap strD).toArray) (by simp [results, Try.results94, go_sem, opUna, strD]) rfl ⟨rfl, ?_⟩
  exact (Below.refl _ _).alloc (Nat.le_refl _) _
end Go.Proofs.Ytdhmkapknaphpaa

namespace Go.Proofs.Ytdhmkapknaphpaa
open Go.RowKit
set_option linter.unusedVariables false

/-- a type of its letter -/
def letT (c : UInt8) : UInt8 := if c = 108 then 126 else 127
def typesL (s : ByteArray) : List UInt8 := s.data.toList.map letT
theorem typesL_len (s : ByteArray) : (typesL s).length = s.size := by simp [typesL]
theorem typesL_take (s : ByteArray) (k : Nat) (h : k < s.size) : (typesL s).take (k + 1) = (typesL s).take k ++ [letT s[k]] := by
  rw [List.take_succ_eq_append_getElem (by rw [typesL_len]; exact h)]
  simp [typesL]
  rfl

theorem opTy_elem : IsElem Try.prog 32 78 1 1 := IsElem.mk' Try.underlying32 (z := .int .u8 0) (by kernel_rfl) rfl (by omega)

theorem Only.iterAt (w : World) (k : Nat) (s : ByteArray) (pos : Nat) : Only [k] w (w.iterAt k s pos) :=
  ⟨rfl, rfl, rfl, by rw [Lib.iterAt_size]; exact Nat.le_refl _, fun i hi hS => Lib.iterAt_other w k i s pos (by simpa using hS)⟩

/-- what types answers -/
def TypesPost (s : ByteArray) (w : World) (e : Ending) (w' : World) : Prop :=
  ∃ A c, e = .returned (.slice A s.size c) ∧ Hid (w'.ownsRow w.heap.size 78 1 (.slice A s.size c) s.size ((typesL s).map B)) ∧ Hid (Below w.heap.size w w')

set_option maxHeartbeats 1600000 in
theorem opTypes_any (s : ByteArray) (w : World) (ha : Hid (∀ i (h : i < s.size), (s[i]).toNat < 128)) (hs : s.size ≤ 1000) :
    Calls Try.prog 87 #[.string s] w (TypesPost s w) := by
  obtain ⟨K, hK⟩ : ∃ K, w.heap.size = K := ⟨_, rfl⟩
  have HIT : Hid ((w.alloc (.stringIter s 0)).heap[K]? = some (.stringIter s 0)) := by show _ = _; rw [← hK]; exact heap_alloc_new w _
  have HB0 : Hid (Below K w (w.alloc (.stringIter s 0))) := by rw [← hK]; exact (Below.refl _ _).alloc (Nat.le_refl _) _
  have HK := hide hK; clear hK
  go_enter Try.func87, Try.ntmps87
  go_wp2_with fail
  rw [HK.out]
  go_loopw [3] (fun v w1 => ∃ pos : Nat, pos ≤ s.size ∧ Hid (w1.heap[K]? = some (.stringIter s pos)) ∧ Hid (w1.ownsRow (K + 1) 78 1 v pos (((typesL s).take pos).map B)) ∧ Hid (Below K w w1)) (fun _ w1 => s.size - w1.iterPos K)
  case atStart => exact ⟨0, by omega, HIT, own_nil _ _ _ _, HB0⟩
  case round =>
    obtain ⟨pos, hp, hit, ho, hb⟩ := hrel
    have hKlt : K < wr.heap.size := (Array.getElem?_eq_some_iff.1 hit.out).1
    by_cases hlt : pos < s.size
    · have hasc := ha.out pos hlt
      obtain ⟨c, hc⟩ : ∃ c, s[pos] = c := ⟨_, rfl⟩
      have hnx : ∀ ty, (Instr.next (.pointer (some ⟨K, 0, none⟩)) true ty).run Try.prog wr = .ok (.tuple #[.bool true, .int .i64 pos, .int .i32 (c.toNat : Int)]) (wr.iterAt K s (pos + 1)) := by
        intro ty; rw [← hc]; exact Lib.run_next_ascii_at wr K s pos _ hit.out hlt hasc
      have hnew := hide (typesL_take s pos hlt)
      rw [hc] at hnew hasc
      have HC := hide hc; clear hc
      have hit1 : Hid ((wr.iterAt K s (pos + 1)).heap[K]? = some (.stringIter s (pos + 1))) := Lib.iterAt_heap wr K s pos (pos + 1) hit.out
      have ho1 := hide (own_only3 ho.out (Only.iterAt wr K s (pos + 1)) (fun g hg => by have := own_ge ho.out g hg; simp; omega))
      have hb1 : Hid (Below K w (wr.iterAt K s (pos + 1))) := Lib.below_iterAt hb.out (Nat.le_refl _) s (pos + 1)
      have hsz : K + 1 ≤ (wr.iterAt K s (pos + 1)).heap.size := by rw [Lib.iterAt_size]; omega
      have hroom : Room pos 1 1 := room_of (by omega) (by omega)
      obtain ⟨W1, hW1⟩ : ∃ W1, wr.iterAt K s (pos + 1) = W1 := ⟨_, rfl⟩
      rw [hW1] at hnx hit1 ho1 hb1 hsz
      clear hW1
      by_cases h108 : c = 108
      · subst h108
        go_wp2_with (at_builtin; refine wpList_push rfl _ _ rfl (K + 1) opTy_elem _ pos _ rfl W1 (.int .u8 126) 78 rfl ho1.out rfl rfl hroom hsz ?_; intro v' w3 ho3 hg3)
        have hit3 : Hid (w3.heap[K]? = some (.stringIter s (pos + 1))) := (hg3.by_.block K (by omega) (fun e => by have := own_ge ho1.out K e.symm; omega)).trans hit1.out
        have ho4 : Hid (w3.ownsRow (K + 1) 78 1 v' (pos + 1) (((typesL s).take (pos + 1)).map B)) := own_cast ho3 rfl (by rw [hnew.out, List.map_append]; rfl)
        have hb3 : Hid (Below K w w3) := hb1.out.trans ((hg3.below hsz (own_ge ho1.out)).mono (by omega))
        have hpos3 := iterPos_of hit3.out
        go_roundw
        case rel => exact ⟨pos + 1, by omega, hit3, ho4, hb3⟩
        case measure => rw [hpos3, iterPos_of hit.out]; omega
      · have f1 : ((c.toNat : Int) == 108) = false := by
          have : c.toNat ≠ 108 := fun e => h108 (UInt8.toNat_inj.1 e)
          simp; omega
        have hl : Hid (letT c = 127) := by show _ = _; unfold letT; rw [if_neg h108]
        clear h108
        go_wp2_with (at_builtin; refine wpList_push rfl _ _ rfl (K + 1) opTy_elem _ pos _ rfl W1 (.int .u8 127) 78 rfl ho1.out rfl rfl hroom hsz ?_; intro v' w3 ho3 hg3)
        have hit3 : Hid (w3.heap[K]? = some (.stringIter s (pos + 1))) := (hg3.by_.block K (by omega) (fun e => by have := own_ge ho1.out K e.symm; omega)).trans hit1.out
        have ho4 : Hid (w3.ownsRow (K + 1) 78 1 v' (pos + 1) (((typesL s).take (pos + 1)).map B)) := own_cast ho3 rfl (by rw [hnew.out, List.map_append, hl.out]; rfl)
        have hb3 : Hid (Below K w w3) := hb1.out.trans ((hg3.below hsz (own_ge ho1.out)).mono (by omega))
        have hpos3 := iterPos_of hit3.out
        go_roundw
        case rel => exact ⟨pos + 1, by omega, hit3, ho4, hb3⟩
        case measure => rw [hpos3, iterPos_of hit.out]; omega
    · have hend : pos = s.size := by omega
      subst hend
      have hnx : ∀ ty, (Instr.next (.pointer (some ⟨K, 0, none⟩)) true ty).run Try.prog wr = _ := fun ty => Lib.run_next_end_at (P := Try.prog) wr K s s.size ty hit.out (by omega)
      obtain ⟨A, c, rfl, _, _⟩ := own_form ho.out
      go_wp2_with fail
      go_ret
      refine ⟨A, c, rfl, ?_, ?_⟩
      · rw [HK.out]
        refine own_base (own_cast ho.out rfl ?_) (fun g hg => by have := own_ge ho.out g hg; omega)
        rw [List.take_of_length_le (by rw [typesL_len]; omega)]
      · rw [HK.out]; exact hb.out
end Go.Proofs.Ytdhmkapknaphpaa

namespace Go.Proofs.Ytdhmkapknaphpaa
open Go.RowKit
set_option linter.unusedVariables false

/-- what is in a row's letters -/
structure OpRow.Ok (r : OpRow) : Prop where
  ta : ∀ i (h : i < r.takes.size), (r.takes[i]).toNat < 128
  tl : r.takes.size ≤ 3
  ga : ∀ i (h : i < r.gives.size), (r.gives[i]).toNat < 128
  gl : r.gives.size ≤ 1

/-- an op's info, as it comes back -/
def InfoPost (r : OpRow) (w : World) (e : Ending) (w' : World) : Prop :=
  ∃ A1 c1 A2 c2, e = .returned (.agg #[.int .i64 r.code, .string r.name, .int .i64 r.form, .slice A1 r.takes.size c1, .slice A2 r.gives.size c2]) ∧
    Hid (w'.ownsRow w.heap.size 78 1 (.slice A1 r.takes.size c1) r.takes.size ((typesL r.takes).map B)) ∧ Hid (w'.ownsRow w.heap.size 78 1 (.slice A2 r.gives.size c2) r.gives.size ((typesL r.gives).map B)) ∧ Hid (Below w.heap.size w w')

set_option maxRecDepth 100000 in
set_option maxHeartbeats 1600000 in
theorem info_any (r : OpRow) (hr : Hid r.Ok) (w : World) :
    Calls Try.prog 79 #[.agg #[.int .i64 r.code, .string r.name, .int .i64 r.form, .string r.takes, .string r.gives]] w (InfoPost r w) := by
  have H1 : Hid (∀ i (h : i < r.takes.size), (r.takes[i]).toNat < 128) := hr.out.ta
  have H2 : Hid (∀ i (h : i < r.gives.size), (r.gives[i]).toNat < 128) := hr.out.ga
  have hl1 : r.takes.size ≤ 1000 := by have := hr.out.tl; omega
  have hl2 : r.gives.size ≤ 1000 := by have := hr.out.gl; omega
  go_enter Try.func79, Try.ntmps79
  go_wp2_with fail
  obtain ⟨W, hW⟩ : ∃ W, ((w.alloc (.cells #[.int .i64 r.code, .string r.name, .int .i64 r.form, .string r.takes, .string r.gives] 164)).alloc (.cells #[.int .i64 0, .string ⟨#[]⟩, .int .i64 0, .slice none 0 0, .slice none 0 0] 155)) = W := ⟨_, rfl⟩
  have hbW : Below w.heap.size w W := by rw [← hW]; exact ((Below.refl _ _).alloc (Nat.le_refl _) _).alloc (by simp) _
  obtain ⟨gb, hgb⟩ : ∃ gb, w.heap.size = gb := ⟨_, rfl⟩
  have hblk : W.heap[gb]? = some (.cells #[.int .i64 r.code, .string r.name, .int .i64 r.form, .string r.takes, .string r.gives] 164 (0, 0)) := by
    rw [← hW, ← hgb, Below.heap_alloc _ _ _ (by simp)]
    exact heap_alloc_new w _
  have hblk2 : W.heap[gb + 1]? = some (.cells #[.int .i64 0, .string ⟨#[]⟩, .int .i64 0, .slice none 0 0, .slice none 0 0] 155 (0, 0)) := by
    rw [← hW, ← hgb]
    have := heap_alloc_new (w.alloc (.cells #[.int .i64 r.code, .string r.name, .int .i64 r.form, .string r.takes, .string r.gives] 164)) (.cells #[.int .i64 0, .string ⟨#[]⟩, .int .i64 0, .slice none 0 0, .slice none 0 0] 155)
    simpa using this
  have hsz : W.heap.size = gb + 2 := by rw [← hW, ← hgb]; simp
  rw [hW, hgb]
  rw [hgb] at hbW
  have HB := hide hbW
  have HG := hide hgb
  have HSZ := hide hsz
  have HCC : CellsOf W (gb + 2) gb _ := CellsOf.of hblk (by omega)
  have HK2 := hide hblk2
  clear hbW hW hgb hsz hblk hblk2
  --REGIONA
  refine wp_region_last (l := [_, _, _, _, _, _, _, _, _, _, _, _, _]) (o := _) grew_ext (factsOf [fun yy _ => yy = .pointer (some ⟨gb, 0, none⟩),
    fun yy _ => yy = .int .i64 r.code,
    fun yy _ => yy = .pointer (some ⟨gb, 1, none⟩),
    fun yy _ => yy = .string r.name,
    fun yy _ => yy = .pointer (some ⟨gb, 2, none⟩),
    fun yy _ => yy = .int .i64 r.form,
    fun yy _ => yy = .pointer (some ⟨gb, 3, none⟩),
    fun yy _ => yy = .string r.takes,
    fun yy WW => ∃ A1 c1, yy = .slice A1 r.takes.size c1 ∧ WW.ownsRow (gb + 2) 78 1 (.slice A1 r.takes.size c1) r.takes.size ((typesL r.takes).map B),
    fun yy _ => yy = .pointer (some ⟨gb, 4, none⟩),
    fun yy _ => yy = .string r.gives,
    fun yy WW => ∃ A1 c1, yy = .slice A1 r.gives.size c1 ∧ WW.ownsRow (gb + 2) 78 1 (.slice A1 r.gives.size c1) r.gives.size ((typesL r.gives).map B),
    fun yy WW => ∃ A1 c1 A2 c2, yy = .agg #[.int .i64 r.code, .string r.name, .int .i64 r.form, .slice A1 r.takes.size c1, .slice A2 r.gives.size c2] ∧ WW.ownsRow (gb + 2) 78 1 (.slice A1 r.takes.size c1) r.takes.size ((typesL r.takes).map B) ∧ WW.ownsRow (gb + 2) 78 1 (.slice A2 r.gives.size c2) r.gives.size ((typesL r.gives).map B)]) (by kernel_rfl) (by kernel_rfl) (by kernel_rfl) ?_ ?_
  · refine ⟨?_, ?_, ?_, ?_, ?_, ?_, ?_, ?_, ?_, ?_, ?_, ?_, ?_, trivial⟩
    · refine ⟨fun ρ W hk => ?_⟩
      have o1 : ρ (.tmp 1) = .pointer (some ⟨gb, 0, none⟩) := hk.old 1 (by decide)
      exact OpOut.fieldAddr (x := .tmp 1) rfl o1 (by go_simp) ⟨Below.refl _ _, rfl⟩
    · refine ⟨fun ρ W hk => ?_⟩
      have h0 := (hk.fact 0 3 (by decide) rfl).pure
      have hc := HCC.out W hk.below 0 (.int .i64 r.code) rfl
      exact OpOut.load (x := .tmp 3) rfl h0 (by go_simp) ⟨Below.refl _ _, rfl⟩
    · refine ⟨fun ρ W hk => ?_⟩
      have o1 : ρ (.tmp 1) = .pointer (some ⟨gb, 0, none⟩) := hk.old 1 (by decide)
      exact OpOut.fieldAddr (x := .tmp 1) rfl o1 (by go_simp) ⟨Below.refl _ _, rfl⟩
    · refine ⟨fun ρ W hk => ?_⟩
      have h2 := (hk.fact 2 5 (by decide) rfl).pure
      have hc := HCC.out W hk.below 1 (.string r.name) rfl
      exact OpOut.load (x := .tmp 5) rfl h2 (by go_simp) ⟨Below.refl _ _, rfl⟩
    · refine ⟨fun ρ W hk => ?_⟩
      have o1 : ρ (.tmp 1) = .pointer (some ⟨gb, 0, none⟩) := hk.old 1 (by decide)
      exact OpOut.fieldAddr (x := .tmp 1) rfl o1 (by go_simp) ⟨Below.refl _ _, rfl⟩
    · refine ⟨fun ρ W hk => ?_⟩
      have h4 := (hk.fact 4 7 (by decide) rfl).pure
      have hc := HCC.out W hk.below 2 (.int .i64 r.form) rfl
      exact OpOut.load (x := .tmp 7) rfl h4 (by go_simp) ⟨Below.refl _ _, rfl⟩
    · refine ⟨fun ρ W hk => ?_⟩
      have o1 : ρ (.tmp 1) = .pointer (some ⟨gb, 0, none⟩) := hk.old 1 (by decide)
      exact OpOut.fieldAddr (x := .tmp 1) rfl o1 (by go_simp) ⟨Below.refl _ _, rfl⟩
    · refine ⟨fun ρ W hk => ?_⟩
      have h6 := (hk.fact 6 9 (by decide) rfl).pure
      have hc := HCC.out W hk.below 3 (.string r.takes) rfl
      exact OpOut.load (x := .tmp 9) rfl h6 (by go_simp) ⟨Below.refl _ _, rfl⟩
    · refine ⟨fun ρ W hk => ?_⟩
      have h7 := (hk.fact 7 10 (by decide) rfl).pure
      refine OpOut.fn (args := #[.string r.takes]) rfl (hk.func _) (by simp [h7]) Try.func87 (by kernel_rfl) rfl ?_
      have hz := HCC.size W hk.below
      refine (opTypes_any r.takes W H1 hl1).mono ?_; rintro e w5 ⟨A5, c5, rfl, ho5, hb5⟩
      exact ⟨_, rfl, hb5.out, A5, c5, rfl, own_base ho5.out (fun q hq => by have := own_ge ho5.out q hq; omega)⟩
    · refine ⟨fun ρ W hk => ?_⟩
      have o1 : ρ (.tmp 1) = .pointer (some ⟨gb, 0, none⟩) := hk.old 1 (by decide)
      exact OpOut.fieldAddr (x := .tmp 1) rfl o1 (by go_simp) ⟨Below.refl _ _, rfl⟩
    · refine ⟨fun ρ W hk => ?_⟩
      have h9 := (hk.fact 9 12 (by decide) rfl).pure
      have hc := HCC.out W hk.below 4 (.string r.gives) rfl
      exact OpOut.load (x := .tmp 12) rfl h9 (by go_simp) ⟨Below.refl _ _, rfl⟩
    · refine ⟨fun ρ W hk => ?_⟩
      have h10 := (hk.fact 10 13 (by decide) rfl).pure
      refine OpOut.fn (args := #[.string r.gives]) rfl (hk.func _) (by simp [h10]) Try.func87 (by kernel_rfl) rfl ?_
      have hz := HCC.size W hk.below
      refine (opTypes_any r.gives W H2 hl2).mono ?_; rintro e w5 ⟨A5, c5, rfl, ho5, hb5⟩
      exact ⟨_, rfl, hb5.out, A5, c5, rfl, own_base ho5.out (fun q hq => by have := own_ge ho5.out q hq; omega)⟩
    · refine ⟨fun ρ W hk => ?_⟩
      have h1 := (hk.fact 1 4 (by decide) rfl).pure
      have h3 := (hk.fact 3 6 (by decide) rfl).pure
      have h5 := (hk.fact 5 8 (by decide) rfl).pure
      obtain ⟨w8, hw8, A8, c8, h8, ho8⟩ := hk.fact 8 11 (by decide) rfl
      obtain ⟨w11, hw11, A11, c11, h11, ho11⟩ := hk.fact 11 14 (by decide) rfl
      exact OpOut.build (us := #[(0, .int .i64 r.code), (1, .string r.name), (2, .int .i64 r.form), (3, .slice A8 r.takes.size c8), (4, .slice A11 r.gives.size c11)]) rfl (by simp [h1, h3, h5, h8, h11]) (by go_simp) ⟨Below.refl _ _, A8, c8, A11, c11, rfl, own_only3 (S := []) ho8 (Only.of_below hw8) (by simp), own_only3 (S := []) ho11 (Only.of_below hw11) (by simp)⟩
  · intro vs W2 hb hf
    obtain ⟨w12, hw12, A1, c1, A2, c2, h12, ho1, ho2⟩ := hf 12 (by decide)
    clear hf
    simp only [fillL]
    rw [h12]
    generalize vs 0 = v0, vs 1 = v1, vs 2 = v2, vs 3 = v3, vs 4 = v4, vs 5 = v5, vs 6 = v6, vs 7 = v7, vs 8 = v8, vs 9 = v9, vs 10 = v10, vs 11 = v11
  --ENDA
    have hown1 := hide (own_only3 (S := []) ho1 (Only.of_below hw12) (by simp))
    have hown2 := hide (own_only3 (S := []) ho2 (Only.of_below hw12) (by simp))
    clear hw12 ho1 ho2
    have hsz2 := hb.size
    rw [HSZ.out] at hsz2
    have hblk3 := (hb.block (gb + 1) (by rw [HSZ.out]; omega)).trans HK2.out
    have e0 : W2.cell? ⟨gb + 1, 0, none⟩ = some (.int .i64 0) := cell_blk hblk3 0
    have e1 : W2.cell? ⟨gb + 1, 1, none⟩ = some (.string ⟨#[]⟩) := cell_blk hblk3 1
    have e2 : W2.cell? ⟨gb + 1, 2, none⟩ = some (.int .i64 0) := cell_blk hblk3 2
    have e3 : W2.cell? ⟨gb + 1, 3, none⟩ = some (.slice none 0 0) := cell_blk hblk3 3
    have e4 : W2.cell? ⟨gb + 1, 4, none⟩ = some (.slice none 0 0) := cell_blk hblk3 4
    have z0 := frozen_blk hblk3 0
    have z1 := frozen_blk hblk3 1
    have z2 := frozen_blk hblk3 2
    have z3 := frozen_blk hblk3 3
    have z4 := frozen_blk hblk3 4
    clear hblk3 h12
    go_frame
    go_wp2_with fail
    have hs5 : ∀ (V : World) (i : Nat) (x : Value), Only [gb + 1] V (V.setCell ⟨gb + 1, i, none⟩ x) := fun V i x => Only.setCell V (p := ⟨gb + 1, i, none⟩) (by simp) x
    have ho5 := (((((hs5 W2 0 (.int .i64 r.code))).trans (hs5 _ 1 (.string r.name))).trans (hs5 _ 2 (.int .i64 r.form))).trans (hs5 _ 3 (.slice A1 r.takes.size c1))).trans (hs5 _ 4 (.slice A2 r.gives.size c2))
    have hblk4 := (hb.block (gb + 1) (by rw [HSZ.out]; omega)).trans HK2.out
    have hbF := setCell_blk (setCell_blk (setCell_blk (setCell_blk (setCell_blk hblk4 0 (.int .i64 r.code)) 1 (.string r.name)) 2 (.int .i64 r.form)) 3 (.slice A1 r.takes.size c1)) 4 (.slice A2 r.gives.size c2)
    generalize ((((W2.setCell ⟨gb + 1, 0, none⟩ (.int .i64 r.code)).setCell ⟨gb + 1, 1, none⟩ (.string r.name)).setCell ⟨gb + 1, 2, none⟩ (.int .i64 r.form)).setCell ⟨gb + 1, 3, none⟩ (.slice A1 r.takes.size c1)).setCell ⟨gb + 1, 4, none⟩ (.slice A2 r.gives.size c2) = Wf at ho5 hbF ⊢
    clear e0 e1 e2 e3 e4 z0 z1 z2 z3 z4
    have f0 : Wf.cell? ⟨gb + 1, 0, none⟩ = some (.int .i64 r.code) := cell_blk hbF 0
    have f1 : Wf.cell? ⟨gb + 1, 1, none⟩ = some (.string r.name) := cell_blk hbF 1
    have f2 : Wf.cell? ⟨gb + 1, 2, none⟩ = some (.int .i64 r.form) := cell_blk hbF 2
    have f3 : Wf.cell? ⟨gb + 1, 3, none⟩ = some (.slice A1 r.takes.size c1) := cell_blk hbF 3
    have f4 : Wf.cell? ⟨gb + 1, 4, none⟩ = some (.slice A2 r.gives.size c2) := cell_blk hbF 4
    refine bodyPost_ret (v := .agg #[.int .i64 r.code, .string r.name, .int .i64 r.form, .slice A1 r.takes.size c1, .slice A2 r.gives.size c2]) (by simp [results, Try.results79, go_sem, f0, f1, f2, f3, f4]) rfl ?_
    have hl : ∀ {v : Value} {n : Nat} {xs : List Value}, W2.ownsRow (gb + 2) 78 1 v n xs → Wf.ownsRow w.heap.size 78 1 v n xs := fun h => by
      have h9 := own_only3 h ho5 (fun g hg => by have := own_ge h g hg; simp; omega)
      exact own_base h9 (fun g hg => by have := own_ge h g hg; rw [HG.out]; omega)
    refine ⟨A1, c1, A2, c2, rfl, hl hown1.out, hl hown2.out, ?_⟩
    have h9 : Below gb w W2 := HB.out.trans (hb.mono (by rw [HSZ.out]; omega))
    have h10 := h9.size
    rw [HG.out] at h10 ⊢
    exact h9.trans (ho5.below h10 (by simp))
end Go.Proofs.Ytdhmkapknaphpaa

namespace Go.Proofs.Ytdhmkapknaphpaa
open Go.RowKit
set_option linter.unusedVariables false

/-- is a code outside the profile -/
def foreignL (c : Int) : Bool := opFor.any (fun x => decide (x.1 ≤ c) && decide (c ≤ x.2))

set_option maxHeartbeats 1600000 in
theorem foreign_any (c : Int) (w : World) (h1 : -9223372036854775808 ≤ c) (h2 : c ≤ 9223372036854775807) :
    Calls Try.prog 69 #[.int .i64 c] w fun e w' => e = .returned (.bool (foreignL c)) ∧ Hid (Below w.heap.size w w') := by
  obtain ⟨v, hv⟩ : ∃ v, foreignL c = v := ⟨_, rfl⟩
  rw [hv]
  obtain ⟨C, hC⟩ : ∃ C, (opFor.flatMap forD).toArray = C := ⟨_, rfl⟩
  have HFT := hide (fun w => foreign_tab w)
  rw [hC] at HFT
  have HV := hide hv; clear hv
  have HC := hide hC; clear hC
  go_enter Try.func69, Try.ntmps69
  go_wp2_with fail
  refine (HFT.out w).mono ?_; rintro e w1 ⟨rfl, hb1⟩
  go_wp2_with fail
  go_loopw [6] (fun i w2 => ∃ k : Nat, i = .int .i64 k ∧ k ≤ 15 ∧ Hid ((opFor.drop k).any (fun x => decide (x.1 ≤ c) && decide (c ≤ x.2)) = v) ∧ Hid (Below w.heap.size w w2)) (fun i _ => 15 - (intOf i).toNat)
  case atStart => exact ⟨0, rfl, by omega, HV, hb1⟩
  case round =>
    obtain ⟨k, rfl, hk, hv, hb⟩ := hrel
    by_cases hlt : k < 15
    · obtain ⟨r, hr⟩ : ∃ r, opFor[k]? = some r := ⟨_, List.getElem?_eq_getElem (by simpa [opFor] using hlt)⟩
      have hix : ∀ W, (Instr.index 169 (.agg C) (.int .i64 k)).run Try.prog W = .ok (.agg #[.int .i64 r.1, .int .i64 r.2]) W := fun W => by
        rw [← HC.out]; exact run_index_row opFor_tab forD (fun _ => rfl) opFor rfl k r hr W
      have hd : opFor.drop k = r :: opFor.drop (k + 1) := by
        obtain ⟨a, b⟩ := List.getElem?_eq_some_iff.1 hr
        rw [List.drop_eq_getElem_cons a, b]
      have hv' := hv.out
      rw [hd, List.any_cons] at hv'
      clear hd hr hv
      have hb' : Hid (Below w.heap.size w (wr.alloc (.cells #[.int .i64 r.1, .int .i64 r.2] 168))) := hb.out.alloc hb.out.size _
      by_cases hin : r.1 ≤ c
      · by_cases hin2 : c ≤ r.2
        · have : v = true := by rw [← hv']; simp [hin, hin2]
          subst this
          clear hv'
          go_wp2_with fail
          go_ret
          exact ⟨rfl, hb'⟩
        · have f2 : decide (c ≤ r.2) = false := by simpa using hin2
          have HV2 : Hid ((opFor.drop (k + 1)).any (fun x => decide (x.1 ≤ c) && decide (c ≤ x.2)) = v) := by
            show _ = _; rw [f2, Bool.and_false, Bool.false_or] at hv'; exact hv'
          clear hv' hin2
          go_wp2_with fail
          go_roundw
          case rel => exact ⟨k + 1, by go_num, by omega, HV2, hb'⟩
          case measure => simp [intOf] <;> omega
      · have f1 : decide (r.1 ≤ c) = false := by simpa using hin
        have HV2 : Hid ((opFor.drop (k + 1)).any (fun x => decide (x.1 ≤ c) && decide (c ≤ x.2)) = v) := by
          show _ = _; rw [f1, Bool.false_and, Bool.false_or] at hv'; exact hv'
        clear hv' hin
        go_wp2_with fail
        go_roundw
        case rel => exact ⟨k + 1, by go_num, by omega, HV2, hb'⟩
        case measure => simp [intOf] <;> omega
    · have hk15 : k = 15 := by omega
      subst hk15
      have : v = false := by rw [← hv.out]; rfl
      subst this
      clear hv
      go_wp2_with fail
      go_ret
      exact ⟨rfl, hb⟩

/-- the numeric span of a code -/
def inSpan (c : Int) (s : OpSpan) : Bool := decide (s.first ≤ c) && decide (c < s.first + s.many)
def numSpan (c : Int) : Option OpSpan := opSpans.find? (inSpan c)
def numN (s : OpSpan) (c : Int) : Nat := (s.base + c - s.first).toNat
theorem opSpans_bd : ∀ s ∈ opSpans, 0 ≤ s.first ∧ s.first ≤ 200 ∧ 0 ≤ s.many ∧ s.many ≤ 20 ∧ 0 ≤ s.base ∧ s.base ≤ 3 ∧ 0 ≤ s.group ∧ s.group ≤ 2 ∧ 0 ≤ s.bits ∧ s.bits ≤ 64 := by decide
def numV (c : Int) : Option OpSpan → Ending
  | none => .returned (.tuple #[.int .i64 0, .int .i64 0, .int .i64 0, .bool false])
  | some s => .returned (.tuple #[.int .i64 s.group, .int .i64 (numN s c : Int), .int .i64 s.bits, .bool true])
def NumericPost (c : Int) (v : Option OpSpan) (w : World) (e : Ending) (w' : World) : Prop := e = numV c v ∧ Hid (Below w.heap.size w w')

set_option maxHeartbeats 1600000 in
theorem numeric_any (c : Int) (w : World) (h1 : -9223372036854775808 ≤ c) (h2 : c ≤ 9223372036854775807) :
    Calls Try.prog 91 #[.int .i64 c] w (NumericPost c (numSpan c) w) := by
  obtain ⟨v, hv⟩ : ∃ v, numSpan c = v := ⟨_, rfl⟩
  rw [hv]
  obtain ⟨C, hC⟩ : ∃ C, (opSpans.flatMap OpSpan.D).toArray = C := ⟨_, rfl⟩
  have HFT := hide (fun w => spans_tab w)
  rw [hC] at HFT
  have HV : Hid ((opSpans.drop 0).find? (inSpan c) = v) := hv
  clear hv
  have HC := hide hC; clear hC
  go_enter Try.func91, Try.ntmps91
  go_wp2_with fail
  refine (HFT.out w).mono ?_; rintro e w1 ⟨rfl, hb1⟩
  go_wp2_with fail
  go_loopw [9] (fun i w2 => ∃ k : Nat, i = .int .i64 k ∧ k ≤ 8 ∧ Hid ((opSpans.drop k).find? (inSpan c) = v) ∧ Hid (Below w.heap.size w w2)) (fun i _ => 8 - (intOf i).toNat)
  case atStart => exact ⟨0, rfl, by omega, HV, hb1⟩
  case round =>
    obtain ⟨k, rfl, hk, hv, hb⟩ := hrel
    by_cases hlt : k < 8
    · obtain ⟨r, hr⟩ : ∃ r, opSpans[k]? = some r := ⟨_, List.getElem?_eq_getElem (by simpa [opSpans] using hlt)⟩
      have hix : ∀ W, (Instr.index 197 (.agg C) (.int .i64 k)).run Try.prog W = .ok (.agg #[.int .i64 r.first, .int .i64 r.many, .int .i64 r.group, .int .i64 r.bits, .int .i64 r.base]) W := fun W => by
        rw [← HC.out]; exact run_index_row opSpans_tab OpSpan.D (fun _ => rfl) opSpans rfl k r hr W
      have hd : opSpans.drop k = r :: opSpans.drop (k + 1) := by
        obtain ⟨a, b⟩ := List.getElem?_eq_some_iff.1 hr
        rw [List.drop_eq_getElem_cons a, b]
      obtain ⟨b1, b2, b3, b4, b5, b6, b7, b8, b9, b10⟩ := opSpans_bd r (List.mem_of_getElem? hr)
      have hv' := hv.out
      rw [hd, List.find?_cons] at hv'
      clear hd hr hv
      have hb' : Hid (Below w.heap.size w (wr.alloc (.cells #[.int .i64 r.first, .int .i64 r.many, .int .i64 r.group, .int .i64 r.bits, .int .i64 r.base] 196))) := hb.out.alloc hb.out.size _
      by_cases hin : r.first ≤ c
      · by_cases hin2 : c < r.first + r.many
        · have : v = some r := by rw [← hv']; simp [inSpan, hin, hin2]
          subst this
          have HN : Hid (r.base + c - r.first = (numN r c : Int)) := by show _ = _; unfold numN; omega
          have s1 : IntKind.i64.wrap (r.base + c) = r.base + c := IntWalk.i64_in _ (by omega)
          have s2 : IntKind.i64.wrap (r.base + c - r.first) = r.base + c - r.first := IntWalk.i64_in _ (by omega)
          clear hv'
          go_wp2_with fail
          go_quiet (fail)
          rename_i nq
          have hb'' : Hid (Below w.heap.size w ((wr.alloc (.cells #[.int .i64 r.first, .int .i64 r.many, .int .i64 r.group, .int .i64 r.bits, .int .i64 r.base] 196)).drewN nq)) := hb'.out.trans ((Only.drewN [] _ nq).below hb'.out.size (by simp))
          rw [HN.out]
          go_wp2_with fail
          exact bodyPost_ret (results_tmp4 rfl _ _ _) rfl ⟨rfl, hb''⟩
        · have f2 : decide (c < r.first + r.many) = false := by simpa using hin2
          have HV2 : Hid ((opSpans.drop (k + 1)).find? (inSpan c) = v) := by
            show _ = _; rw [show inSpan c r = false from by unfold inSpan; rw [f2, Bool.and_false]] at hv'; exact hv'
          clear hv' hin2
          go_wp2_with fail
          go_roundw
          case rel => exact ⟨k + 1, by go_num, by omega, HV2, hb'⟩
          case measure => simp [intOf] <;> omega
      · have f1 : decide (r.first ≤ c) = false := by simpa using hin
        have HV2 : Hid ((opSpans.drop (k + 1)).find? (inSpan c) = v) := by
          show _ = _; rw [show inSpan c r = false from by unfold inSpan; rw [f1, Bool.false_and]] at hv'; exact hv'
        clear hv' hin
        go_wp2_with fail
        go_roundw
        case rel => exact ⟨k + 1, by go_num, by omega, HV2, hb'⟩
        case measure => simp [intOf] <;> omega
    · have hk8 : k = 8 := by omega
      subst hk8
      have : v = none := by rw [← hv.out]; rfl
      subst this
      clear hv
      go_wp2_with fail
      exact bodyPost_ret (results_tmp4 rfl _ _ _) rfl ⟨rfl, hb⟩
end Go.Proofs.Ytdhmkapknaphpaa

namespace Go.Proofs.Ytdhmkapknaphpaa
open Go.RowKit
set_option linter.unusedVariables false

def zeroRow : OpRow := ⟨0, ⟨#[]⟩, 0, ⟨#[]⟩, ⟨#[]⟩⟩
def kindS (b : Bool) : ByteArray := if b then ⟨#[105, 54, 52, 46]⟩ else ⟨#[105, 51, 50, 46]⟩
def oneS (b : Bool) : ByteArray := if b then ⟨#[108]⟩ else ⟨#[105]⟩
/-- the row of a numeric code -/
def spanRow (s : OpSpan) (c : Int) : OpRow :=
  if s.group = 0 then ⟨c, kindS (s.bits == 64) ++ opBin.getD (numN s c) ⟨#[]⟩, 0, oneS (s.bits == 64) ++ oneS (s.bits == 64), oneS (s.bits == 64)⟩
  else if s.group = 1 then ⟨c, kindS (s.bits == 64) ++ opTst.getD (numN s c) ⟨#[]⟩, 0, oneS (s.bits == 64) ++ oneS (s.bits == 64), ⟨#[105]⟩⟩
  else if numN s c = 3 then ⟨c, kindS (s.bits == 64) ++ opUna.getD (numN s c) ⟨#[]⟩, 0, oneS (s.bits == 64), ⟨#[105]⟩⟩
  else ⟨c, kindS (s.bits == 64) ++ opUna.getD (numN s c) ⟨#[]⟩, 0, oneS (s.bits == 64), oneS (s.bits == 64)⟩
def numRow (c : Int) : Option OpRow := (numSpan c).map (fun s => spanRow s c)
/-- the row of a code -/
def opRow (c : Int) : Option OpRow := (opRows1.find? (fun r => r.code == c)).or ((opRows2.find? (fun r => r.code == c)).or (numRow c))

/-- a row that comes back, or none -/
def rowV (r : Option OpRow) : Ending :=
  .returned (.tuple #[.agg #[.int .i64 (r.getD zeroRow).code, .string (r.getD zeroRow).name, .int .i64 (r.getD zeroRow).form, .string (r.getD zeroRow).takes, .string (r.getD zeroRow).gives], .bool r.isSome])
def RowPost (r : Option OpRow) (w : World) (e : Ending) (w' : World) : Prop := e = rowV r ∧ Hid (Below w.heap.size w w')

theorem str_index {xs : List ByteArray} {t e : TypeId} {n : Nat} (hu : Try.prog.underlying t = some (.array n e)) (hs : (Try.prog.info? e).map (fun i => i.size) = some 1) (ha : ∀ w, (isAgg e).run Try.prog w = .ok false w) (hn : xs.length = n) (k : Nat) (hk : k < n) (w : World) :
    (Instr.index t (.agg (xs.flatMap strD).toArray) (.int .i64 k)).run Try.prog w = .ok (.string (xs.getD k ⟨#[]⟩)) w := by
  have h : xs.flatMap strD = xs.map Value.string := by
    clear hn hk hu
    induction xs with
    | nil => rfl
    | cons x r ih => rw [List.flatMap_cons, ih]; rfl
  rw [h]
  exact run_index_one hu hs ha (xs.map Value.string) (by simpa using hn) k _ (by rw [List.getElem?_map, List.getD_eq_getElem?_getD, List.getElem?_eq_getElem (by omega)]; rfl) w

theorem name_small : (∀ x ∈ opBin, x.size ≤ 10) ∧ (∀ x ∈ opTst, x.size ≤ 10) ∧ (∀ x ∈ opUna, x.size ≤ 10) := by decide
theorem getD_small {xs : List ByteArray} (h : ∀ x ∈ xs, x.size ≤ 10) (k : Nat) : (xs.getD k ⟨#[]⟩).size ≤ 10 := by
  rw [List.getD_eq_getElem?_getD]
  cases hk : xs[k]? with
  | none => exact Nat.zero_le _
  | some x => exact h x (List.mem_of_getElem? hk)

/-- of a numeric span: its group, its bits, how many -/
theorem span_kinds : ∀ s ∈ opSpans, (s.bits = 32 ∨ s.bits = 64) ∧ ((s.group = 0 ∧ s.many ≤ 15 ∧ s.base = 0) ∨ (s.group = 1 ∧ s.many ≤ 10 ∧ s.base = 0) ∨ (s.group = 2 ∧ s.base + s.many ≤ 4)) := by decide

set_option maxRecDepth 100000 in
set_option maxHeartbeats 3200000 in
theorem numbered_any (c : Int) (w : World) (h1 : -9223372036854775808 ≤ c) (h2 : c ≤ 9223372036854775807) :
    Calls Try.prog 86 #[.int .i64 c] w (RowPost (numRow c) w) := by
  have HN := hide (fun w => numeric_any c w h1 h2)
  have HBT := hide (fun w => bin_tab w)
  have HTT := hide (fun w => tst_tab w)
  have HUT := hide (fun w => una_tab w)
  obtain ⟨g, hg⟩ : ∃ g, w.heap.size = g := ⟨_, rfl⟩
  obtain ⟨W, hW⟩ : ∃ W, w.alloc (.cells #[.int .i64 0, .string ⟨#[]⟩, .int .i64 0, .string ⟨#[]⟩, .string ⟨#[]⟩] 164) = W := ⟨_, rfl⟩
  have hblk : W.heap[g]? = some (.cells #[.int .i64 0, .string ⟨#[]⟩, .int .i64 0, .string ⟨#[]⟩, .string ⟨#[]⟩] 164 (0, 0)) := by rw [← hW, ← hg]; exact heap_alloc_new w _
  have hb0 : Below g w W := by rw [← hW, ← hg]; exact (Below.refl _ _).alloc (Nat.le_refl _) _
  have HBLK := hide hblk; clear hblk
  have HB0 := hide hb0; clear hb0
  have HW := hide hW; clear hW
  have HG := hide hg; clear hg
  have fin : ∀ (w1 : World) (cs : Array Value), w1.heap[g]? = some (.cells #[.int .i64 0, .string ⟨#[]⟩, .int .i64 0, .string ⟨#[]⟩, .string ⟨#[]⟩] 164 (0, 0)) → Below g w w1 → (w1.setRow g cs).heap[g]? = some (.cells cs 164 (0, 0)) ∧ Below g w (w1.setRow g cs) := fun w1 cs hb hl =>
    ⟨setRow_blk hb, hl.trans ((setRow_only w1 g cs).below (Nat.le_of_lt (blk_lt hb)) (by simp))⟩
  have FIN := hide fin; clear fin
  cases hs : numSpan c with
  | none =>
    rw [hs] at HN
    have hr : numRow c = none := by unfold numRow; rw [hs]; rfl
    rw [hr]
    clear hr hs
    go_enter Try.func86, Try.ntmps86
    go_wp2_with fail
    rw [HW.out, HG.out]
    refine (HN.out _).mono ?_; rintro e w1 ⟨rfl, hb1⟩
    unfold numV
    have blk1 := hide ((hb1.out.block g (blk_lt HBLK.out)).trans HBLK.out)
    have hbel : Hid (Below g w w1) := HB0.out.trans (hb1.out.mono (Nat.le_of_lt (blk_lt HBLK.out)))
    go_wp2_with (refine wpList_store_row rfl 164 _ _ rfl g _ rfl rfl 164 _ blk1.out (by kernel_rfl) rfl (by simp [Value.oneCell']) ?_)
    obtain ⟨k1, k2⟩ := FIN.out w1 #[.int .i64 0, .string ⟨#[]⟩, .int .i64 0, .string ⟨#[]⟩, .string ⟨#[]⟩] blk1.out hbel.out
    generalize w1.setRow g #[.int .i64 0, .string ⟨#[]⟩, .int .i64 0, .string ⟨#[]⟩, .string ⟨#[]⟩] = W2 at k1 k2 ⊢
    have f0 : W2.cell? ⟨g, 0, none⟩ = some (.int .i64 0) := cell_blk k1 0
    have f1 : W2.cell? ⟨g, 1, none⟩ = some (.string ⟨#[]⟩) := cell_blk k1 1
    have f2 : W2.cell? ⟨g, 2, none⟩ = some (.int .i64 0) := cell_blk k1 2
    have f3 : W2.cell? ⟨g, 3, none⟩ = some (.string ⟨#[]⟩) := cell_blk k1 3
    have f4 : W2.cell? ⟨g, 4, none⟩ = some (.string ⟨#[]⟩) := cell_blk k1 4
    refine bodyPost_ret (v := .tuple #[.agg #[.int .i64 0, .string ⟨#[]⟩, .int .i64 0, .string ⟨#[]⟩, .string ⟨#[]⟩], .bool false]) (by simp [results, Try.results86, go_sem, f0, f1, f2, f3, f4]) rfl ⟨rfl, ?_⟩
    rw [HG.out]
    exact k2
  | some s =>
    rw [hs] at HN
    have hr : numRow c = some (spanRow s c) := by unfold numRow; rw [hs]; rfl
    rw [hr]
    have hm : s ∈ opSpans := List.mem_of_find?_eq_some hs
    have hin : inSpan c s = true := List.find?_some hs
    obtain ⟨hbits, hgr⟩ := span_kinds s hm
    obtain ⟨b1, b2, b3, b4, b5, b6, b7, b8, b9, b10⟩ := opSpans_bd s hm
    unfold inSpan at hin
    simp only [Bool.and_eq_true, decide_eq_true_eq] at hin
    obtain ⟨n, hn⟩ : ∃ n, numN s c = n := ⟨_, rfl⟩
    have hnn : (n : Int) = s.base + c - s.first := by rw [← hn]; unfold numN; omega
    obtain ⟨q, hq⟩ : ∃ q, (s.bits == 64) = q := ⟨_, rfl⟩
    obtain ⟨row, hrow⟩ : ∃ row, spanRow s c = row := ⟨_, rfl⟩
    have hx1 := fun W (h : n < 15) => str_index (xs := opBin) (t := 184) (e := 9) Try.underlying184 (by kernel_rfl) (fun _ => by kernel_rfl) rfl n h W
    have hx2 := fun W (h : n < 10) => str_index (xs := opTst) (t := 186) (e := 9) Try.underlying186 (by kernel_rfl) (fun _ => by kernel_rfl) rfl n h W
    have hx3 := fun W (h : n < 4) => str_index (xs := opUna) (t := 188) (e := 9) Try.underlying188 (by kernel_rfl) (fun _ => by kernel_rfl) rfl n h W
    have sm1 := getD_small name_small.1 n
    have sm2 := getD_small name_small.2.1 n
    have sm3 := getD_small name_small.2.2 n
    rw [hrow]
    unfold spanRow at hrow
    rw [hn, hq] at hrow
    have hcase : (s.group = 0 ∧ n < 15) ∨ (s.group = 1 ∧ n < 10) ∨ (s.group = 2 ∧ n < 4) := by omega
    have HNV : Hid (numV c (some s) = .returned (.tuple #[.int .i64 s.group, .int .i64 (n : Int), .int .i64 s.bits, .bool true])) := by show _ = _; rw [← hn]; rfl
    have HX1 := hide hx1; have HX2 := hide hx2; have HX3 := hide hx3
    clear hx1 hx2 hx3 hr hs hm hin b1 b2 b3 b4 b5 b6 b7 b8 b9 b10 hn hnn hgr
    obtain ⟨sf, smn, sg, sb, sba⟩ := s
    simp only at hbits hcase hq hrow HNV
    have HQ := hide hq; clear hq
    have HROW := hide hrow; clear hrow
    have X1 : Hid True := trivial
    rcases hcase with ⟨rfl, hnl⟩ | ⟨rfl, hnl⟩ | ⟨rfl, hnl⟩
    --ARMS
    · have hx := fun W => HX1.out W hnl
      obtain ⟨nm, hnm⟩ : ∃ nm, opBin.getD n ⟨#[]⟩ = nm := ⟨_, rfl⟩
      rw [hnm] at hx sm1
      clear sm2 sm3
      rcases hbits with rfl | rfl
      · have hrow := HROW.out
        have hq : q = false := by rw [← HQ.out]; rfl
        subst hq
        rw [if_pos rfl, hnm] at hrow
        have HR : Hid (row = ⟨c, ⟨#[105, 51, 50, 46]⟩ ++ nm, 0, ⟨#[105]⟩ ++ ⟨#[105]⟩, ⟨#[105]⟩⟩) := hrow.symm
        clear hrow
        have HNM := hide hnm; clear hnm
        go_enter Try.func86, Try.ntmps86
        go_wp2_with fail
        rw [HW.out, HG.out]
        refine (HN.out _).mono ?_; rintro e w1 ⟨rfl, hb1⟩
        rw [HNV.out]
        have blk1 := hide ((hb1.out.block g (blk_lt HBLK.out)).trans HBLK.out)
        have hbel : Hid (Below g w w1) := HB0.out.trans (hb1.out.mono (Nat.le_of_lt (blk_lt HBLK.out)))
        go_wp2_with fail
        refine (HBT.out _).mono ?_; rintro e w2 ⟨rfl, hb2⟩
        have blk2 := hide ((hb2.out.block g (blk_lt blk1.out)).trans blk1.out)
        have hbel2 : Hid (Below g w w2) := hbel.out.trans (hb2.out.mono (Nat.le_of_lt (blk_lt blk1.out)))
        go_wp2_with (refine wpList_store_row rfl 164 _ _ rfl g #[.int .i64 c, .string (⟨#[105, 51, 50, 46]⟩ ++ nm), .int .i64 0, .string (⟨#[105]⟩ ++ ⟨#[105]⟩), .string ⟨#[105]⟩] rfl rfl 164 _ blk2.out (by kernel_rfl) rfl (by simp [Value.oneCell']) ?_)
        obtain ⟨k1, k2⟩ := FIN.out w2 #[.int .i64 c, .string (⟨#[105, 51, 50, 46]⟩ ++ nm), .int .i64 0, .string (⟨#[105]⟩ ++ ⟨#[105]⟩), .string ⟨#[105]⟩] blk2.out hbel2.out
        generalize w2.setRow g #[.int .i64 c, .string (⟨#[105, 51, 50, 46]⟩ ++ nm), .int .i64 0, .string (⟨#[105]⟩ ++ ⟨#[105]⟩), .string ⟨#[105]⟩] = W2 at k1 k2 ⊢
        have f0 : W2.cell? ⟨g, 0, none⟩ = some (.int .i64 c) := cell_blk k1 0
        have f1 : W2.cell? ⟨g, 1, none⟩ = some (.string (⟨#[105, 51, 50, 46]⟩ ++ nm)) := cell_blk k1 1
        have f2 : W2.cell? ⟨g, 2, none⟩ = some (.int .i64 0) := cell_blk k1 2
        have f3 : W2.cell? ⟨g, 3, none⟩ = some (.string (⟨#[105]⟩ ++ ⟨#[105]⟩)) := cell_blk k1 3
        have f4 : W2.cell? ⟨g, 4, none⟩ = some (.string ⟨#[105]⟩) := cell_blk k1 4
        rw [HR.out]
        refine bodyPost_ret (v := .tuple #[.agg #[.int .i64 c, .string (⟨#[105, 51, 50, 46]⟩ ++ nm), .int .i64 0, .string (⟨#[105]⟩ ++ ⟨#[105]⟩), .string ⟨#[105]⟩], .bool true]) (by simp [results, Try.results86, go_sem, f0, f1, f2, f3, f4]) rfl ⟨rfl, ?_⟩
        rw [HG.out]
        exact k2
      · have hrow := HROW.out
        have hq : q = true := by rw [← HQ.out]; rfl
        subst hq
        rw [if_pos rfl, hnm] at hrow
        have HR : Hid (row = ⟨c, ⟨#[105, 54, 52, 46]⟩ ++ nm, 0, ⟨#[108]⟩ ++ ⟨#[108]⟩, ⟨#[108]⟩⟩) := hrow.symm
        clear hrow
        have HNM := hide hnm; clear hnm
        go_enter Try.func86, Try.ntmps86
        go_wp2_with fail
        rw [HW.out, HG.out]
        refine (HN.out _).mono ?_; rintro e w1 ⟨rfl, hb1⟩
        rw [HNV.out]
        have blk1 := hide ((hb1.out.block g (blk_lt HBLK.out)).trans HBLK.out)
        have hbel : Hid (Below g w w1) := HB0.out.trans (hb1.out.mono (Nat.le_of_lt (blk_lt HBLK.out)))
        go_wp2_with fail
        refine (HBT.out _).mono ?_; rintro e w2 ⟨rfl, hb2⟩
        have blk2 := hide ((hb2.out.block g (blk_lt blk1.out)).trans blk1.out)
        have hbel2 : Hid (Below g w w2) := hbel.out.trans (hb2.out.mono (Nat.le_of_lt (blk_lt blk1.out)))
        go_wp2_with (refine wpList_store_row rfl 164 _ _ rfl g #[.int .i64 c, .string (⟨#[105, 54, 52, 46]⟩ ++ nm), .int .i64 0, .string (⟨#[108]⟩ ++ ⟨#[108]⟩), .string ⟨#[108]⟩] rfl rfl 164 _ blk2.out (by kernel_rfl) rfl (by simp [Value.oneCell']) ?_)
        obtain ⟨k1, k2⟩ := FIN.out w2 #[.int .i64 c, .string (⟨#[105, 54, 52, 46]⟩ ++ nm), .int .i64 0, .string (⟨#[108]⟩ ++ ⟨#[108]⟩), .string ⟨#[108]⟩] blk2.out hbel2.out
        generalize w2.setRow g #[.int .i64 c, .string (⟨#[105, 54, 52, 46]⟩ ++ nm), .int .i64 0, .string (⟨#[108]⟩ ++ ⟨#[108]⟩), .string ⟨#[108]⟩] = W2 at k1 k2 ⊢
        have f0 : W2.cell? ⟨g, 0, none⟩ = some (.int .i64 c) := cell_blk k1 0
        have f1 : W2.cell? ⟨g, 1, none⟩ = some (.string (⟨#[105, 54, 52, 46]⟩ ++ nm)) := cell_blk k1 1
        have f2 : W2.cell? ⟨g, 2, none⟩ = some (.int .i64 0) := cell_blk k1 2
        have f3 : W2.cell? ⟨g, 3, none⟩ = some (.string (⟨#[108]⟩ ++ ⟨#[108]⟩)) := cell_blk k1 3
        have f4 : W2.cell? ⟨g, 4, none⟩ = some (.string ⟨#[108]⟩) := cell_blk k1 4
        rw [HR.out]
        refine bodyPost_ret (v := .tuple #[.agg #[.int .i64 c, .string (⟨#[105, 54, 52, 46]⟩ ++ nm), .int .i64 0, .string (⟨#[108]⟩ ++ ⟨#[108]⟩), .string ⟨#[108]⟩], .bool true]) (by simp [results, Try.results86, go_sem, f0, f1, f2, f3, f4]) rfl ⟨rfl, ?_⟩
        rw [HG.out]
        exact k2
    · have hx := fun W => HX2.out W hnl
      obtain ⟨nm, hnm⟩ : ∃ nm, opTst.getD n ⟨#[]⟩ = nm := ⟨_, rfl⟩
      rw [hnm] at hx sm2
      clear sm1 sm3
      rcases hbits with rfl | rfl
      · have hrow := HROW.out
        have hq : q = false := by rw [← HQ.out]; rfl
        subst hq
        rw [if_neg (by decide), if_pos rfl, hnm] at hrow
        have HR : Hid (row = ⟨c, ⟨#[105, 51, 50, 46]⟩ ++ nm, 0, ⟨#[105]⟩ ++ ⟨#[105]⟩, ⟨#[105]⟩⟩) := hrow.symm
        clear hrow
        have HNM := hide hnm; clear hnm
        go_enter Try.func86, Try.ntmps86
        go_wp2_with fail
        rw [HW.out, HG.out]
        refine (HN.out _).mono ?_; rintro e w1 ⟨rfl, hb1⟩
        rw [HNV.out]
        have blk1 := hide ((hb1.out.block g (blk_lt HBLK.out)).trans HBLK.out)
        have hbel : Hid (Below g w w1) := HB0.out.trans (hb1.out.mono (Nat.le_of_lt (blk_lt HBLK.out)))
        go_wp2_with fail
        refine (HTT.out _).mono ?_; rintro e w2 ⟨rfl, hb2⟩
        have blk2 := hide ((hb2.out.block g (blk_lt blk1.out)).trans blk1.out)
        have hbel2 : Hid (Below g w w2) := hbel.out.trans (hb2.out.mono (Nat.le_of_lt (blk_lt blk1.out)))
        go_wp2_with (refine wpList_store_row rfl 164 _ _ rfl g #[.int .i64 c, .string (⟨#[105, 51, 50, 46]⟩ ++ nm), .int .i64 0, .string (⟨#[105]⟩ ++ ⟨#[105]⟩), .string ⟨#[105]⟩] rfl rfl 164 _ blk2.out (by kernel_rfl) rfl (by simp [Value.oneCell']) ?_)
        obtain ⟨k1, k2⟩ := FIN.out w2 #[.int .i64 c, .string (⟨#[105, 51, 50, 46]⟩ ++ nm), .int .i64 0, .string (⟨#[105]⟩ ++ ⟨#[105]⟩), .string ⟨#[105]⟩] blk2.out hbel2.out
        generalize w2.setRow g #[.int .i64 c, .string (⟨#[105, 51, 50, 46]⟩ ++ nm), .int .i64 0, .string (⟨#[105]⟩ ++ ⟨#[105]⟩), .string ⟨#[105]⟩] = W2 at k1 k2 ⊢
        have f0 : W2.cell? ⟨g, 0, none⟩ = some (.int .i64 c) := cell_blk k1 0
        have f1 : W2.cell? ⟨g, 1, none⟩ = some (.string (⟨#[105, 51, 50, 46]⟩ ++ nm)) := cell_blk k1 1
        have f2 : W2.cell? ⟨g, 2, none⟩ = some (.int .i64 0) := cell_blk k1 2
        have f3 : W2.cell? ⟨g, 3, none⟩ = some (.string (⟨#[105]⟩ ++ ⟨#[105]⟩)) := cell_blk k1 3
        have f4 : W2.cell? ⟨g, 4, none⟩ = some (.string ⟨#[105]⟩) := cell_blk k1 4
        rw [HR.out]
        refine bodyPost_ret (v := .tuple #[.agg #[.int .i64 c, .string (⟨#[105, 51, 50, 46]⟩ ++ nm), .int .i64 0, .string (⟨#[105]⟩ ++ ⟨#[105]⟩), .string ⟨#[105]⟩], .bool true]) (by simp [results, Try.results86, go_sem, f0, f1, f2, f3, f4]) rfl ⟨rfl, ?_⟩
        rw [HG.out]
        exact k2
      · have hrow := HROW.out
        have hq : q = true := by rw [← HQ.out]; rfl
        subst hq
        rw [if_neg (by decide), if_pos rfl, hnm] at hrow
        have HR : Hid (row = ⟨c, ⟨#[105, 54, 52, 46]⟩ ++ nm, 0, ⟨#[108]⟩ ++ ⟨#[108]⟩, ⟨#[105]⟩⟩) := hrow.symm
        clear hrow
        have HNM := hide hnm; clear hnm
        go_enter Try.func86, Try.ntmps86
        go_wp2_with fail
        rw [HW.out, HG.out]
        refine (HN.out _).mono ?_; rintro e w1 ⟨rfl, hb1⟩
        rw [HNV.out]
        have blk1 := hide ((hb1.out.block g (blk_lt HBLK.out)).trans HBLK.out)
        have hbel : Hid (Below g w w1) := HB0.out.trans (hb1.out.mono (Nat.le_of_lt (blk_lt HBLK.out)))
        go_wp2_with fail
        refine (HTT.out _).mono ?_; rintro e w2 ⟨rfl, hb2⟩
        have blk2 := hide ((hb2.out.block g (blk_lt blk1.out)).trans blk1.out)
        have hbel2 : Hid (Below g w w2) := hbel.out.trans (hb2.out.mono (Nat.le_of_lt (blk_lt blk1.out)))
        go_wp2_with (refine wpList_store_row rfl 164 _ _ rfl g #[.int .i64 c, .string (⟨#[105, 54, 52, 46]⟩ ++ nm), .int .i64 0, .string (⟨#[108]⟩ ++ ⟨#[108]⟩), .string ⟨#[105]⟩] rfl rfl 164 _ blk2.out (by kernel_rfl) rfl (by simp [Value.oneCell']) ?_)
        obtain ⟨k1, k2⟩ := FIN.out w2 #[.int .i64 c, .string (⟨#[105, 54, 52, 46]⟩ ++ nm), .int .i64 0, .string (⟨#[108]⟩ ++ ⟨#[108]⟩), .string ⟨#[105]⟩] blk2.out hbel2.out
        generalize w2.setRow g #[.int .i64 c, .string (⟨#[105, 54, 52, 46]⟩ ++ nm), .int .i64 0, .string (⟨#[108]⟩ ++ ⟨#[108]⟩), .string ⟨#[105]⟩] = W2 at k1 k2 ⊢
        have f0 : W2.cell? ⟨g, 0, none⟩ = some (.int .i64 c) := cell_blk k1 0
        have f1 : W2.cell? ⟨g, 1, none⟩ = some (.string (⟨#[105, 54, 52, 46]⟩ ++ nm)) := cell_blk k1 1
        have f2 : W2.cell? ⟨g, 2, none⟩ = some (.int .i64 0) := cell_blk k1 2
        have f3 : W2.cell? ⟨g, 3, none⟩ = some (.string (⟨#[108]⟩ ++ ⟨#[108]⟩)) := cell_blk k1 3
        have f4 : W2.cell? ⟨g, 4, none⟩ = some (.string ⟨#[105]⟩) := cell_blk k1 4
        rw [HR.out]
        refine bodyPost_ret (v := .tuple #[.agg #[.int .i64 c, .string (⟨#[105, 54, 52, 46]⟩ ++ nm), .int .i64 0, .string (⟨#[108]⟩ ++ ⟨#[108]⟩), .string ⟨#[105]⟩], .bool true]) (by simp [results, Try.results86, go_sem, f0, f1, f2, f3, f4]) rfl ⟨rfl, ?_⟩
        rw [HG.out]
        exact k2
    · have hx := fun W => HX3.out W hnl
      obtain ⟨nm, hnm⟩ : ∃ nm, opUna.getD n ⟨#[]⟩ = nm := ⟨_, rfl⟩
      rw [hnm] at hx sm3
      clear sm1 sm2
      rcases hbits with rfl | rfl
      · have hrow := HROW.out
        have hq : q = false := by rw [← HQ.out]; rfl
        subst hq
        by_cases h3 : n = 3
        · skip
          rw [if_neg (by decide), if_neg (by decide), if_pos h3, hnm] at hrow
          have HR : Hid (row = ⟨c, ⟨#[105, 51, 50, 46]⟩ ++ nm, 0, ⟨#[105]⟩, ⟨#[105]⟩⟩) := hrow.symm
          clear hrow
          have HNM := hide hnm; clear hnm
          have f3 : ((n : Int) == 3) = true := by simp; omega
          clear h3
          go_enter Try.func86, Try.ntmps86
          go_wp2_with fail
          rw [HW.out, HG.out]
          refine (HN.out _).mono ?_; rintro e w1 ⟨rfl, hb1⟩
          rw [HNV.out]
          have blk1 := hide ((hb1.out.block g (blk_lt HBLK.out)).trans HBLK.out)
          have hbel : Hid (Below g w w1) := HB0.out.trans (hb1.out.mono (Nat.le_of_lt (blk_lt HBLK.out)))
          go_wp2_with fail
          refine (HUT.out _).mono ?_; rintro e w2 ⟨rfl, hb2⟩
          have blk2 := hide ((hb2.out.block g (blk_lt blk1.out)).trans blk1.out)
          have hbel2 : Hid (Below g w w2) := hbel.out.trans (hb2.out.mono (Nat.le_of_lt (blk_lt blk1.out)))
          go_wp2_with (refine wpList_store_row rfl 164 _ _ rfl g #[.int .i64 c, .string (⟨#[105, 51, 50, 46]⟩ ++ nm), .int .i64 0, .string (⟨#[105]⟩), .string ⟨#[105]⟩] rfl rfl 164 _ blk2.out (by kernel_rfl) rfl (by simp [Value.oneCell']) ?_)
          obtain ⟨k1, k2⟩ := FIN.out w2 #[.int .i64 c, .string (⟨#[105, 51, 50, 46]⟩ ++ nm), .int .i64 0, .string (⟨#[105]⟩), .string ⟨#[105]⟩] blk2.out hbel2.out
          generalize w2.setRow g #[.int .i64 c, .string (⟨#[105, 51, 50, 46]⟩ ++ nm), .int .i64 0, .string (⟨#[105]⟩), .string ⟨#[105]⟩] = W2 at k1 k2 ⊢
          have f0 : W2.cell? ⟨g, 0, none⟩ = some (.int .i64 c) := cell_blk k1 0
          have f1 : W2.cell? ⟨g, 1, none⟩ = some (.string (⟨#[105, 51, 50, 46]⟩ ++ nm)) := cell_blk k1 1
          have f2 : W2.cell? ⟨g, 2, none⟩ = some (.int .i64 0) := cell_blk k1 2
          have f3 : W2.cell? ⟨g, 3, none⟩ = some (.string (⟨#[105]⟩)) := cell_blk k1 3
          have f4 : W2.cell? ⟨g, 4, none⟩ = some (.string ⟨#[105]⟩) := cell_blk k1 4
          rw [HR.out]
          refine bodyPost_ret (v := .tuple #[.agg #[.int .i64 c, .string (⟨#[105, 51, 50, 46]⟩ ++ nm), .int .i64 0, .string (⟨#[105]⟩), .string ⟨#[105]⟩], .bool true]) (by simp [results, Try.results86, go_sem, f0, f1, f2, f3, f4]) rfl ⟨rfl, ?_⟩
          rw [HG.out]
          exact k2
        · skip
          rw [if_neg (by decide), if_neg (by decide), if_neg h3, hnm] at hrow
          have HR : Hid (row = ⟨c, ⟨#[105, 51, 50, 46]⟩ ++ nm, 0, ⟨#[105]⟩, ⟨#[105]⟩⟩) := hrow.symm
          clear hrow
          have HNM := hide hnm; clear hnm
          have f3 : ((n : Int) == 3) = false := by simp; omega
          clear h3
          go_enter Try.func86, Try.ntmps86
          go_wp2_with fail
          rw [HW.out, HG.out]
          refine (HN.out _).mono ?_; rintro e w1 ⟨rfl, hb1⟩
          rw [HNV.out]
          have blk1 := hide ((hb1.out.block g (blk_lt HBLK.out)).trans HBLK.out)
          have hbel : Hid (Below g w w1) := HB0.out.trans (hb1.out.mono (Nat.le_of_lt (blk_lt HBLK.out)))
          go_wp2_with fail
          refine (HUT.out _).mono ?_; rintro e w2 ⟨rfl, hb2⟩
          have blk2 := hide ((hb2.out.block g (blk_lt blk1.out)).trans blk1.out)
          have hbel2 : Hid (Below g w w2) := hbel.out.trans (hb2.out.mono (Nat.le_of_lt (blk_lt blk1.out)))
          go_wp2_with (refine wpList_store_row rfl 164 _ _ rfl g #[.int .i64 c, .string (⟨#[105, 51, 50, 46]⟩ ++ nm), .int .i64 0, .string (⟨#[105]⟩), .string ⟨#[105]⟩] rfl rfl 164 _ blk2.out (by kernel_rfl) rfl (by simp [Value.oneCell']) ?_)
          obtain ⟨k1, k2⟩ := FIN.out w2 #[.int .i64 c, .string (⟨#[105, 51, 50, 46]⟩ ++ nm), .int .i64 0, .string (⟨#[105]⟩), .string ⟨#[105]⟩] blk2.out hbel2.out
          generalize w2.setRow g #[.int .i64 c, .string (⟨#[105, 51, 50, 46]⟩ ++ nm), .int .i64 0, .string (⟨#[105]⟩), .string ⟨#[105]⟩] = W2 at k1 k2 ⊢
          have f0 : W2.cell? ⟨g, 0, none⟩ = some (.int .i64 c) := cell_blk k1 0
          have f1 : W2.cell? ⟨g, 1, none⟩ = some (.string (⟨#[105, 51, 50, 46]⟩ ++ nm)) := cell_blk k1 1
          have f2 : W2.cell? ⟨g, 2, none⟩ = some (.int .i64 0) := cell_blk k1 2
          have f3 : W2.cell? ⟨g, 3, none⟩ = some (.string (⟨#[105]⟩)) := cell_blk k1 3
          have f4 : W2.cell? ⟨g, 4, none⟩ = some (.string ⟨#[105]⟩) := cell_blk k1 4
          rw [HR.out]
          refine bodyPost_ret (v := .tuple #[.agg #[.int .i64 c, .string (⟨#[105, 51, 50, 46]⟩ ++ nm), .int .i64 0, .string (⟨#[105]⟩), .string ⟨#[105]⟩], .bool true]) (by simp [results, Try.results86, go_sem, f0, f1, f2, f3, f4]) rfl ⟨rfl, ?_⟩
          rw [HG.out]
          exact k2
      · have hrow := HROW.out
        have hq : q = true := by rw [← HQ.out]; rfl
        subst hq
        by_cases h3 : n = 3
        · skip
          rw [if_neg (by decide), if_neg (by decide), if_pos h3, hnm] at hrow
          have HR : Hid (row = ⟨c, ⟨#[105, 54, 52, 46]⟩ ++ nm, 0, ⟨#[108]⟩, ⟨#[105]⟩⟩) := hrow.symm
          clear hrow
          have HNM := hide hnm; clear hnm
          have f3 : ((n : Int) == 3) = true := by simp; omega
          clear h3
          go_enter Try.func86, Try.ntmps86
          go_wp2_with fail
          rw [HW.out, HG.out]
          refine (HN.out _).mono ?_; rintro e w1 ⟨rfl, hb1⟩
          rw [HNV.out]
          have blk1 := hide ((hb1.out.block g (blk_lt HBLK.out)).trans HBLK.out)
          have hbel : Hid (Below g w w1) := HB0.out.trans (hb1.out.mono (Nat.le_of_lt (blk_lt HBLK.out)))
          go_wp2_with fail
          refine (HUT.out _).mono ?_; rintro e w2 ⟨rfl, hb2⟩
          have blk2 := hide ((hb2.out.block g (blk_lt blk1.out)).trans blk1.out)
          have hbel2 : Hid (Below g w w2) := hbel.out.trans (hb2.out.mono (Nat.le_of_lt (blk_lt blk1.out)))
          go_wp2_with (refine wpList_store_row rfl 164 _ _ rfl g #[.int .i64 c, .string (⟨#[105, 54, 52, 46]⟩ ++ nm), .int .i64 0, .string (⟨#[108]⟩), .string ⟨#[105]⟩] rfl rfl 164 _ blk2.out (by kernel_rfl) rfl (by simp [Value.oneCell']) ?_)
          obtain ⟨k1, k2⟩ := FIN.out w2 #[.int .i64 c, .string (⟨#[105, 54, 52, 46]⟩ ++ nm), .int .i64 0, .string (⟨#[108]⟩), .string ⟨#[105]⟩] blk2.out hbel2.out
          generalize w2.setRow g #[.int .i64 c, .string (⟨#[105, 54, 52, 46]⟩ ++ nm), .int .i64 0, .string (⟨#[108]⟩), .string ⟨#[105]⟩] = W2 at k1 k2 ⊢
          have f0 : W2.cell? ⟨g, 0, none⟩ = some (.int .i64 c) := cell_blk k1 0
          have f1 : W2.cell? ⟨g, 1, none⟩ = some (.string (⟨#[105, 54, 52, 46]⟩ ++ nm)) := cell_blk k1 1
          have f2 : W2.cell? ⟨g, 2, none⟩ = some (.int .i64 0) := cell_blk k1 2
          have f3 : W2.cell? ⟨g, 3, none⟩ = some (.string (⟨#[108]⟩)) := cell_blk k1 3
          have f4 : W2.cell? ⟨g, 4, none⟩ = some (.string ⟨#[105]⟩) := cell_blk k1 4
          rw [HR.out]
          refine bodyPost_ret (v := .tuple #[.agg #[.int .i64 c, .string (⟨#[105, 54, 52, 46]⟩ ++ nm), .int .i64 0, .string (⟨#[108]⟩), .string ⟨#[105]⟩], .bool true]) (by simp [results, Try.results86, go_sem, f0, f1, f2, f3, f4]) rfl ⟨rfl, ?_⟩
          rw [HG.out]
          exact k2
        · skip
          rw [if_neg (by decide), if_neg (by decide), if_neg h3, hnm] at hrow
          have HR : Hid (row = ⟨c, ⟨#[105, 54, 52, 46]⟩ ++ nm, 0, ⟨#[108]⟩, ⟨#[108]⟩⟩) := hrow.symm
          clear hrow
          have HNM := hide hnm; clear hnm
          have f3 : ((n : Int) == 3) = false := by simp; omega
          clear h3
          go_enter Try.func86, Try.ntmps86
          go_wp2_with fail
          rw [HW.out, HG.out]
          refine (HN.out _).mono ?_; rintro e w1 ⟨rfl, hb1⟩
          rw [HNV.out]
          have blk1 := hide ((hb1.out.block g (blk_lt HBLK.out)).trans HBLK.out)
          have hbel : Hid (Below g w w1) := HB0.out.trans (hb1.out.mono (Nat.le_of_lt (blk_lt HBLK.out)))
          go_wp2_with fail
          refine (HUT.out _).mono ?_; rintro e w2 ⟨rfl, hb2⟩
          have blk2 := hide ((hb2.out.block g (blk_lt blk1.out)).trans blk1.out)
          have hbel2 : Hid (Below g w w2) := hbel.out.trans (hb2.out.mono (Nat.le_of_lt (blk_lt blk1.out)))
          go_wp2_with (refine wpList_store_row rfl 164 _ _ rfl g #[.int .i64 c, .string (⟨#[105, 54, 52, 46]⟩ ++ nm), .int .i64 0, .string (⟨#[108]⟩), .string ⟨#[108]⟩] rfl rfl 164 _ blk2.out (by kernel_rfl) rfl (by simp [Value.oneCell']) ?_)
          obtain ⟨k1, k2⟩ := FIN.out w2 #[.int .i64 c, .string (⟨#[105, 54, 52, 46]⟩ ++ nm), .int .i64 0, .string (⟨#[108]⟩), .string ⟨#[108]⟩] blk2.out hbel2.out
          generalize w2.setRow g #[.int .i64 c, .string (⟨#[105, 54, 52, 46]⟩ ++ nm), .int .i64 0, .string (⟨#[108]⟩), .string ⟨#[108]⟩] = W2 at k1 k2 ⊢
          have f0 : W2.cell? ⟨g, 0, none⟩ = some (.int .i64 c) := cell_blk k1 0
          have f1 : W2.cell? ⟨g, 1, none⟩ = some (.string (⟨#[105, 54, 52, 46]⟩ ++ nm)) := cell_blk k1 1
          have f2 : W2.cell? ⟨g, 2, none⟩ = some (.int .i64 0) := cell_blk k1 2
          have f3 : W2.cell? ⟨g, 3, none⟩ = some (.string (⟨#[108]⟩)) := cell_blk k1 3
          have f4 : W2.cell? ⟨g, 4, none⟩ = some (.string ⟨#[108]⟩) := cell_blk k1 4
          rw [HR.out]
          refine bodyPost_ret (v := .tuple #[.agg #[.int .i64 c, .string (⟨#[105, 54, 52, 46]⟩ ++ nm), .int .i64 0, .string (⟨#[108]⟩), .string ⟨#[108]⟩], .bool true]) (by simp [results, Try.results86, go_sem, f0, f1, f2, f3, f4]) rfl ⟨rfl, ?_⟩
          rw [HG.out]
          exact k2
    --ENDARMS
end Go.Proofs.Ytdhmkapknaphpaa

namespace Go.Proofs.Ytdhmkapknaphpaa
open Go.RowKit
set_option linter.unusedVariables false

theorem rowV_some (r : OpRow) : rowV (some r) = .returned (.tuple #[.agg #[.int .i64 r.code, .string r.name, .int .i64 r.form, .string r.takes, .string r.gives], .bool true]) := rfl
theorem rowV_none : rowV none = .returned (.tuple #[.agg #[.int .i64 0, .string ⟨#[]⟩, .int .i64 0, .string ⟨#[]⟩, .string ⟨#[]⟩], .bool false]) := rfl
theorem find_drop {α : Type} {p : α → Bool} {l : List α} {k : Nat} {r : α} (hr : l[k]? = some r) : (l.drop k).find? p = if p r then some r else (l.drop (k + 1)).find? p := by
  obtain ⟨a, b⟩ := List.getElem?_eq_some_iff.1 hr
  rw [List.drop_eq_getElem_cons a, b, List.find?_cons]
  cases p r <;> rfl

set_option maxRecDepth 100000 in
set_option maxHeartbeats 3200000 in
theorem opAt_any (c : Int) (w : World) (h1 : -9223372036854775808 ≤ c) (h2 : c ≤ 9223372036854775807) :
    Calls Try.prog 78 #[.int .i64 c] w (RowPost (opRow c) w) := by
  have HNB := hide (fun w => numbered_any c w h1 h2)
  obtain ⟨C1, hC1⟩ : ∃ C, (opRows1.flatMap OpRow.D).toArray = C := ⟨_, rfl⟩
  obtain ⟨C2, hC2⟩ : ∃ C, (opRows2.flatMap OpRow.D).toArray = C := ⟨_, rfl⟩
  have HT1 := hide (fun w => rows_any w)
  have HT2 := hide (fun w => late_any w)
  rw [hC1] at HT1
  rw [hC2] at HT2
  have HC1 := hide hC1; clear hC1
  have HC2 := hide hC2; clear hC2
  obtain ⟨v, hv⟩ : ∃ v, opRow c = v := ⟨_, rfl⟩
  rw [hv]
  have HV : Hid (((opRows1.drop 0).find? (fun r => r.code == c)).or ((opRows2.find? (fun r => r.code == c)).or (numRow c)) = v) := hv
  clear hv
  obtain ⟨g, hg⟩ : ∃ g, w.heap.size = g := ⟨_, rfl⟩
  obtain ⟨W, hW⟩ : ∃ W, w.alloc (.cells #[.int .i64 0, .string ⟨#[]⟩, .int .i64 0, .string ⟨#[]⟩, .string ⟨#[]⟩] 164) = W := ⟨_, rfl⟩
  have hblk : W.heap[g]? = some (.cells #[.int .i64 0, .string ⟨#[]⟩, .int .i64 0, .string ⟨#[]⟩, .string ⟨#[]⟩] 164 (0, 0)) := by rw [← hW, ← hg]; exact heap_alloc_new w _
  have hb0 : Below g w W := by rw [← hW, ← hg]; exact (Below.refl _ _).alloc (Nat.le_refl _) _
  have HBLK := hide hblk; clear hblk
  have HB0 := hide hb0; clear hb0
  have HW := hide hW; clear hW
  have HG := hide hg; clear hg
  have fin : ∀ (w1 : World) (cs : Array Value), w1.heap[g]? = some (.cells #[.int .i64 0, .string ⟨#[]⟩, .int .i64 0, .string ⟨#[]⟩, .string ⟨#[]⟩] 164 (0, 0)) → Below g w w1 → (w1.setRow g cs).heap[g]? = some (.cells cs 164 (0, 0)) ∧ Below g w (w1.setRow g cs) := fun w1 cs hb hl =>
    ⟨setRow_blk hb, hl.trans ((setRow_only w1 g cs).below (Nat.le_of_lt (blk_lt hb)) (by simp))⟩
  have FIN := hide fin; clear fin
  go_enter Try.func78, Try.ntmps78
  go_wp2_with fail
  rw [HW.out, HG.out]
  refine (HT1.out _).mono ?_; rintro e w1 ⟨rfl, hb1⟩
  have blk1 := hide ((hb1.out.block g (blk_lt HBLK.out)).trans HBLK.out)
  have hbel : Hid (Below g w w1) := HB0.out.trans (hb1.out.mono (Nat.le_of_lt (blk_lt HBLK.out)))
  clear HBLK HB0 hb1
  go_wp2_with fail
  go_loopw [9] (fun i w2 => ∃ k : Nat, i = .int .i64 k ∧ k ≤ 47 ∧ Hid (((opRows1.drop k).find? (fun r => r.code == c)).or ((opRows2.find? (fun r => r.code == c)).or (numRow c)) = v) ∧ Hid (w2.heap[g]? = some (.cells #[.int .i64 0, .string ⟨#[]⟩, .int .i64 0, .string ⟨#[]⟩, .string ⟨#[]⟩] 164 (0, 0))) ∧ Hid (Below g w w2)) (fun i _ => 47 - (intOf i).toNat)
  case atStart => exact ⟨0, rfl, by omega, HV, blk1, hbel⟩
  case round =>
    clear HV blk1 hbel
    obtain ⟨k, rfl, hk, hv, hblk, hb⟩ := hrel
    by_cases hlt : k < 47
    · obtain ⟨r, hr⟩ : ∃ r, opRows1[k]? = some r := ⟨_, List.getElem?_eq_getElem (by simpa [opRows1] using hlt)⟩
      have hix : ∀ W, (Instr.index 173 (.agg C1) (.int .i64 k)).run Try.prog W = .ok (.agg #[.int .i64 r.code, .string r.name, .int .i64 r.form, .string r.takes, .string r.gives]) W := fun W => by
        rw [← HC1.out]; exact run_index_row opRows1_tab OpRow.D (fun _ => rfl) opRows1 rfl k r hr W
      have hv' := hv.out
      rw [find_drop hr] at hv'
      clear hr hv
      have hblk' : Hid ((wr.alloc (.cells #[.int .i64 r.code, .string r.name, .int .i64 r.form, .string r.takes, .string r.gives] 164)).heap[g]? = _) := (Below.heap_alloc wr _ g (blk_lt hblk.out)).trans hblk.out
      have hb' : Hid (Below g w (wr.alloc (.cells #[.int .i64 r.code, .string r.name, .int .i64 r.form, .string r.takes, .string r.gives] 164))) := hb.out.alloc (Nat.le_of_lt (blk_lt hblk.out)) _
      by_cases hc : r.code = c
      · have hvv : Hid (v = some r) := by show _ = _; rw [← hv', if_pos (by simp [hc])]; rfl
        have fc : (r.code == c) = true := by simpa using hc
        clear hv' hc
        go_wp2_with (refine wpList_store_row rfl 164 _ _ rfl g #[.int .i64 r.code, .string r.name, .int .i64 r.form, .string r.takes, .string r.gives] rfl rfl 164 _ hblk'.out (by kernel_rfl) rfl (by simp [Value.oneCell']) ?_)
        obtain ⟨k1, k2⟩ := FIN.out _ #[.int .i64 r.code, .string r.name, .int .i64 r.form, .string r.takes, .string r.gives] hblk'.out hb'.out
        generalize (wr.alloc (.cells #[.int .i64 r.code, .string r.name, .int .i64 r.form, .string r.takes, .string r.gives] 164)).setRow g #[.int .i64 r.code, .string r.name, .int .i64 r.form, .string r.takes, .string r.gives] = W2 at k1 k2 ⊢
        have f0 : W2.cell? ⟨g, 0, none⟩ = some (.int .i64 r.code) := cell_blk k1 0
        have f1 : W2.cell? ⟨g, 1, none⟩ = some (.string r.name) := cell_blk k1 1
        have f2 : W2.cell? ⟨g, 2, none⟩ = some (.int .i64 r.form) := cell_blk k1 2
        have f3 : W2.cell? ⟨g, 3, none⟩ = some (.string r.takes) := cell_blk k1 3
        have f4 : W2.cell? ⟨g, 4, none⟩ = some (.string r.gives) := cell_blk k1 4
        rw [hvv.out]
        refine bodyPost_ret (v := .tuple #[.agg #[.int .i64 r.code, .string r.name, .int .i64 r.form, .string r.takes, .string r.gives], .bool true]) (by simp [results, Try.results78, go_sem, f0, f1, f2, f3, f4]) rfl ⟨rfl, ?_⟩
        rw [HG.out]
        exact k2
      · have fc : (r.code == c) = false := by simpa using hc
        have hv2 : Hid (((opRows1.drop (k + 1)).find? (fun r => r.code == c)).or ((opRows2.find? (fun r => r.code == c)).or (numRow c)) = v) := by
          show _ = _; rw [if_neg (by simp [hc])] at hv'; exact hv'
        clear hv' hc
        go_wp2_with fail
        go_roundw
        case rel => exact ⟨k + 1, by go_num, by omega, hv2, hblk', hb'⟩
        case measure => simp [intOf] <;> omega
    · have hk47 : k = 47 := by omega
      subst hk47
      have hv2 : Hid (((opRows2.drop 0).find? (fun r => r.code == c)).or (numRow c) = v) := hv.out
      clear hlt hk hv
      go_wp2_with fail
      refine (HT2.out _).mono ?_; rintro e w2 ⟨rfl, hb2⟩
      have blk1 := hide ((hb2.out.block g (blk_lt hblk.out)).trans hblk.out)
      have hbel : Hid (Below g w w2) := hb.out.trans (hb2.out.mono (Nat.le_of_lt (blk_lt hblk.out)))
      clear hblk hb hb2
      go_wp2_with fail
      go_loopw [19] (fun i w2 => ∃ k : Nat, i = .int .i64 k ∧ k ≤ 6 ∧ Hid (((opRows2.drop k).find? (fun r => r.code == c)).or (numRow c) = v) ∧ Hid (w2.heap[g]? = some (.cells #[.int .i64 0, .string ⟨#[]⟩, .int .i64 0, .string ⟨#[]⟩, .string ⟨#[]⟩] 164 (0, 0))) ∧ Hid (Below g w w2)) (fun i _ => 6 - (intOf i).toNat)
      case atStart => exact ⟨0, rfl, by omega, hv2, blk1, hbel⟩
      case round =>
        clear hv2 blk1 hbel
        obtain ⟨k, rfl, hk, hv, hblk, hb⟩ := hrel
        by_cases hlt : k < 6
        · obtain ⟨r, hr⟩ : ∃ r, opRows2[k]? = some r := ⟨_, List.getElem?_eq_getElem (by simpa [opRows2] using hlt)⟩
          have hix : ∀ W, (Instr.index 175 (.agg C2) (.int .i64 k)).run Try.prog W = .ok (.agg #[.int .i64 r.code, .string r.name, .int .i64 r.form, .string r.takes, .string r.gives]) W := fun W => by
            rw [← HC2.out]; exact run_index_row opRows2_tab OpRow.D (fun _ => rfl) opRows2 rfl k r hr W
          have hv' := hv.out
          rw [find_drop hr] at hv'
          clear hr hv
          have hblk' : Hid ((wr.alloc (.cells #[.int .i64 r.code, .string r.name, .int .i64 r.form, .string r.takes, .string r.gives] 164)).heap[g]? = _) := (Below.heap_alloc wr _ g (blk_lt hblk.out)).trans hblk.out
          have hb' : Hid (Below g w (wr.alloc (.cells #[.int .i64 r.code, .string r.name, .int .i64 r.form, .string r.takes, .string r.gives] 164))) := hb.out.alloc (Nat.le_of_lt (blk_lt hblk.out)) _
          by_cases hc : r.code = c
          · have hvv : Hid (v = some r) := by show _ = _; rw [← hv', if_pos (by simp [hc])]; rfl
            have fc : (r.code == c) = true := by simpa using hc
            clear hv' hc
            go_wp2_with (refine wpList_store_row rfl 164 _ _ rfl g #[.int .i64 r.code, .string r.name, .int .i64 r.form, .string r.takes, .string r.gives] rfl rfl 164 _ hblk'.out (by kernel_rfl) rfl (by simp [Value.oneCell']) ?_)
            obtain ⟨k1, k2⟩ := FIN.out _ #[.int .i64 r.code, .string r.name, .int .i64 r.form, .string r.takes, .string r.gives] hblk'.out hb'.out
            generalize (wr.alloc (.cells #[.int .i64 r.code, .string r.name, .int .i64 r.form, .string r.takes, .string r.gives] 164)).setRow g #[.int .i64 r.code, .string r.name, .int .i64 r.form, .string r.takes, .string r.gives] = W2 at k1 k2 ⊢
            have f0 : W2.cell? ⟨g, 0, none⟩ = some (.int .i64 r.code) := cell_blk k1 0
            have f1 : W2.cell? ⟨g, 1, none⟩ = some (.string r.name) := cell_blk k1 1
            have f2 : W2.cell? ⟨g, 2, none⟩ = some (.int .i64 r.form) := cell_blk k1 2
            have f3 : W2.cell? ⟨g, 3, none⟩ = some (.string r.takes) := cell_blk k1 3
            have f4 : W2.cell? ⟨g, 4, none⟩ = some (.string r.gives) := cell_blk k1 4
            rw [hvv.out]
            refine bodyPost_ret (v := .tuple #[.agg #[.int .i64 r.code, .string r.name, .int .i64 r.form, .string r.takes, .string r.gives], .bool true]) (by simp [results, Try.results78, go_sem, f0, f1, f2, f3, f4]) rfl ⟨rfl, ?_⟩
            rw [HG.out]
            exact k2
          · have fc : (r.code == c) = false := by simpa using hc
            have hv2 : Hid (((opRows2.drop (k + 1)).find? (fun r => r.code == c)).or (numRow c) = v) := by
              show _ = _; rw [if_neg (by simp [hc])] at hv'; exact hv'
            clear hv' hc
            go_wp2_with fail
            go_roundw
            case rel => exact ⟨k + 1, by go_num, by omega, hv2, hblk', hb'⟩
            case measure => simp [intOf] <;> omega
        · have hk6 : k = 6 := by omega
          subst hk6
          have hvv : Hid (numRow c = v) := hv.out
          clear hlt hk hv
          go_wp2_with fail
          refine (HNB.out _).mono ?_; rintro e w3 ⟨rfl, hb3⟩
          rw [hvv.out]
          have blk3 := hide ((hb3.out.block g (blk_lt hblk.out)).trans hblk.out)
          have hbel3 : Hid (Below g w w3) := hb.out.trans (hb3.out.mono (Nat.le_of_lt (blk_lt hblk.out)))
          obtain ⟨r, hr⟩ : ∃ r, v.getD zeroRow = r := ⟨_, rfl⟩
          obtain ⟨q, hq⟩ : ∃ q, v.isSome = q := ⟨_, rfl⟩
          have hrv : rowV v = .returned (.tuple #[.agg #[.int .i64 r.code, .string r.name, .int .i64 r.form, .string r.takes, .string r.gives], .bool q]) := by unfold rowV; rw [hr, hq]
          rw [hrv]
          have HRV := hide hrv
          clear hrv hr hq
          go_wp2_with (refine wpList_store_row rfl 164 _ _ rfl g #[.int .i64 r.code, .string r.name, .int .i64 r.form, .string r.takes, .string r.gives] rfl rfl 164 _ blk3.out (by kernel_rfl) rfl (by simp [Value.oneCell']) ?_)
          obtain ⟨k1, k2⟩ := FIN.out _ #[.int .i64 r.code, .string r.name, .int .i64 r.form, .string r.takes, .string r.gives] blk3.out hbel3.out
          generalize w3.setRow g #[.int .i64 r.code, .string r.name, .int .i64 r.form, .string r.takes, .string r.gives] = W2 at k1 k2 ⊢
          have f0 : W2.cell? ⟨g, 0, none⟩ = some (.int .i64 r.code) := cell_blk k1 0
          have f1 : W2.cell? ⟨g, 1, none⟩ = some (.string r.name) := cell_blk k1 1
          have f2 : W2.cell? ⟨g, 2, none⟩ = some (.int .i64 r.form) := cell_blk k1 2
          have f3 : W2.cell? ⟨g, 3, none⟩ = some (.string r.takes) := cell_blk k1 3
          have f4 : W2.cell? ⟨g, 4, none⟩ = some (.string r.gives) := cell_blk k1 4
          refine bodyPost_ret (v := .tuple #[.agg #[.int .i64 r.code, .string r.name, .int .i64 r.form, .string r.takes, .string r.gives], .bool q]) (by simp [results, Try.results78, go_sem, f0, f1, f2, f3, f4]) rfl ⟨HRV.out.symm, ?_⟩
          rw [HG.out]
          exact k2

/-- the letters of a row are few, and ASCII -/
def letB (s : ByteArray) (n : Nat) : Bool := s.data.toList.all (fun c => decide (c.toNat < 128)) && decide (s.size ≤ n)
theorem letB_at {s : ByteArray} {n : Nat} (h : letB s n = true) : (∀ i (h : i < s.size), (s[i]).toNat < 128) ∧ s.size ≤ n := by
  unfold letB at h
  simp only [Bool.and_eq_true, List.all_eq_true, decide_eq_true_eq] at h
  refine ⟨fun i hi => h.1 _ ?_, h.2⟩
  have : s[i] = s.data.toList[i]'(by simpa using hi) := by simp; rfl
  rw [this]
  exact List.getElem_mem _
def rowB (r : OpRow) : Bool := letB r.takes 3 && letB r.gives 1
theorem rowB_ok {r : OpRow} (h : rowB r = true) : r.Ok := by
  unfold rowB at h
  simp only [Bool.and_eq_true] at h
  obtain ⟨h1, h2⟩ := letB_at h.1
  obtain ⟨h3, h4⟩ := letB_at h.2
  exact ⟨h1, h2, h3, h4⟩
theorem rows_okB : (∀ r ∈ opRows1, rowB r = true) ∧ (∀ r ∈ opRows2, rowB r = true) := by decide +kernel
theorem spanRow_okB (s : OpSpan) (c : Int) : rowB (spanRow s c) = true := by
  unfold spanRow
  generalize (s.bits == 64) = q
  split
  · cases q <;> rfl
  · split
    · cases q <;> rfl
    · split <;> cases q <;> rfl
theorem opRow_ok {c : Int} {r : OpRow} (h : opRow c = some r) : r.Ok := by
  apply rowB_ok
  unfold opRow at h
  cases h1 : opRows1.find? (fun r => r.code == c) with
  | some x => rw [h1] at h; simp at h; subst h; exact rows_okB.1 _ (List.mem_of_find?_eq_some h1)
  | none =>
    rw [h1] at h
    cases h2 : opRows2.find? (fun r => r.code == c) with
    | some x => rw [h2] at h; simp at h; subst h; exact rows_okB.2 _ (List.mem_of_find?_eq_some h2)
    | none =>
      rw [h2] at h
      simp only [Option.none_or] at h
      unfold numRow at h
      cases h3 : numSpan c with
      | none => rw [h3] at h; cases h
      | some s => rw [h3] at h; simp at h; subst h; exact spanRow_okB s c

def FindSome (r : OpRow) (w : World) (e : Ending) (w' : World) : Prop :=
  ∃ A1 c1 A2 c2, e = .returned (.tuple #[.agg #[.int .i64 r.code, .string r.name, .int .i64 r.form, .slice A1 r.takes.size c1, .slice A2 r.gives.size c2], .bool true]) ∧
    Hid (w'.ownsRow w.heap.size 78 1 (.slice A1 r.takes.size c1) r.takes.size ((typesL r.takes).map B)) ∧ Hid (w'.ownsRow w.heap.size 78 1 (.slice A2 r.gives.size c2) r.gives.size ((typesL r.gives).map B)) ∧ Hid (Below w.heap.size w w')

set_option maxHeartbeats 1600000 in
theorem find_none (c : Int) (w : World) (h1 : -9223372036854775808 ≤ c) (h2 : c ≤ 9223372036854775807) (hv : opRow c = none) :
    Calls Try.prog 67 #[.int .i64 c] w fun e w' => e = .returned (.tuple #[.agg #[.int .i64 0, .string ⟨#[]⟩, .int .i64 0, .slice none 0 0, .slice none 0 0], .bool false]) ∧ Hid (Below w.heap.size w w') := by
  have HAT := hide (fun w => opAt_any c w h1 h2)
  rw [hv] at HAT
  clear hv
  obtain ⟨g, hg⟩ : ∃ g, w.heap.size = g := ⟨_, rfl⟩
  obtain ⟨W, hW⟩ : ∃ W, w.alloc (.cells #[.int .i64 0, .string ⟨#[]⟩, .int .i64 0, .slice none 0 0, .slice none 0 0] 155) = W := ⟨_, rfl⟩
  have hblk : W.heap[g]? = some (.cells #[.int .i64 0, .string ⟨#[]⟩, .int .i64 0, .slice none 0 0, .slice none 0 0] 155 (0, 0)) := by rw [← hW, ← hg]; exact heap_alloc_new w _
  have hb0 : Below g w W := by rw [← hW, ← hg]; exact (Below.refl _ _).alloc (Nat.le_refl _) _
  have HBLK := hide hblk; clear hblk
  have HB0 := hide hb0; clear hb0
  have HW := hide hW; clear hW
  have HG := hide hg; clear hg
  go_enter Try.func67, Try.ntmps67
  go_wp2_with fail
  rw [HW.out, HG.out]
  refine (HAT.out _).mono ?_; rintro e w1 ⟨rfl, hb1⟩
  rw [rowV_none]
  have blk1 := hide ((hb1.out.block g (blk_lt HBLK.out)).trans HBLK.out)
  have hbel : Hid (Below g w w1) := HB0.out.trans (hb1.out.mono (Nat.le_of_lt (blk_lt HBLK.out)))
  have blk2 : Hid ((w1.alloc (.cells #[.int .i64 0, .string ⟨#[]⟩, .int .i64 0, .string ⟨#[]⟩, .string ⟨#[]⟩] 164)).heap[g]? = _) := (Below.heap_alloc w1 _ g (blk_lt blk1.out)).trans blk1.out
  have hbel2 : Hid (Below g w (w1.alloc (.cells #[.int .i64 0, .string ⟨#[]⟩, .int .i64 0, .string ⟨#[]⟩, .string ⟨#[]⟩] 164))) := hbel.out.alloc (Nat.le_of_lt (blk_lt blk1.out)) _
  go_wp2_with (refine wpList_store_row rfl 155 _ _ rfl g #[.int .i64 0, .string ⟨#[]⟩, .int .i64 0, .slice none 0 0, .slice none 0 0] rfl rfl 155 _ blk2.out (by kernel_rfl) rfl (by simp [Value.oneCell']) ?_)
  have k1 := setRow_blk (cs := #[.int .i64 0, .string ⟨#[]⟩, .int .i64 0, .slice none 0 0, .slice none 0 0]) blk2.out
  have k2 : Below g w _ := hbel2.out.trans ((setRow_only _ g #[.int .i64 0, .string ⟨#[]⟩, .int .i64 0, .slice none 0 0, .slice none 0 0]).below (Nat.le_of_lt (blk_lt blk2.out)) (by simp))
  generalize (w1.alloc (.cells #[.int .i64 0, .string ⟨#[]⟩, .int .i64 0, .string ⟨#[]⟩, .string ⟨#[]⟩] 164)).setRow g #[.int .i64 0, .string ⟨#[]⟩, .int .i64 0, .slice none 0 0, .slice none 0 0] = W2 at k1 k2 ⊢
  have f0 : W2.cell? ⟨g, 0, none⟩ = some (.int .i64 0) := cell_blk k1 0
  have f1 : W2.cell? ⟨g, 1, none⟩ = some (.string ⟨#[]⟩) := cell_blk k1 1
  have f2 : W2.cell? ⟨g, 2, none⟩ = some (.int .i64 0) := cell_blk k1 2
  have f3 : W2.cell? ⟨g, 3, none⟩ = some (.slice none 0 0) := cell_blk k1 3
  have f4 : W2.cell? ⟨g, 4, none⟩ = some (.slice none 0 0) := cell_blk k1 4
  refine bodyPost_ret (v := .tuple #[.agg #[.int .i64 0, .string ⟨#[]⟩, .int .i64 0, .slice none 0 0, .slice none 0 0], .bool false]) (by simp [results, Try.results67, go_sem, f0, f1, f2, f3, f4]) rfl ⟨rfl, ?_⟩
  rw [HG.out]
  exact k2

set_option maxHeartbeats 1600000 in
theorem find_some (c : Int) (r : OpRow) (w : World) (h1 : -9223372036854775808 ≤ c) (h2 : c ≤ 9223372036854775807) (hv : opRow c = some r) :
    Calls Try.prog 67 #[.int .i64 c] w (FindSome r w) := by
  have HAT := hide (fun w => opAt_any c w h1 h2)
  rw [hv] at HAT
  have HIN := hide (fun w => info_any r (hide (opRow_ok hv)) w)
  clear hv
  obtain ⟨g, hg⟩ : ∃ g, w.heap.size = g := ⟨_, rfl⟩
  obtain ⟨W, hW⟩ : ∃ W, w.alloc (.cells #[.int .i64 0, .string ⟨#[]⟩, .int .i64 0, .slice none 0 0, .slice none 0 0] 155) = W := ⟨_, rfl⟩
  have hblk : W.heap[g]? = some (.cells #[.int .i64 0, .string ⟨#[]⟩, .int .i64 0, .slice none 0 0, .slice none 0 0] 155 (0, 0)) := by rw [← hW, ← hg]; exact heap_alloc_new w _
  have hb0 : Below g w W := by rw [← hW, ← hg]; exact (Below.refl _ _).alloc (Nat.le_refl _) _
  have HBLK := hide hblk; clear hblk
  have HB0 := hide hb0; clear hb0
  have HW := hide hW; clear hW
  have HG := hide hg; clear hg
  go_enter Try.func67, Try.ntmps67
  go_wp2_with fail
  rw [HW.out, HG.out]
  refine (HAT.out _).mono ?_; rintro e w1 ⟨rfl, hb1⟩
  rw [rowV_some]
  have blk1 := hide ((hb1.out.block g (blk_lt HBLK.out)).trans HBLK.out)
  have hbel : Hid (Below g w w1) := HB0.out.trans (hb1.out.mono (Nat.le_of_lt (blk_lt HBLK.out)))
  go_wp2_with fail
  refine (HIN.out _).mono ?_; rintro e w2 ⟨A1, c1, A2, c2, rfl, ho1, ho2, hb2⟩
  have hsz1 := Nat.le_of_lt (blk_lt blk1.out)
  have hb2' : Hid (Below w1.heap.size w1 w2) := ((Below.refl _ _).alloc (Nat.le_refl _) _).trans (hb2.out.mono (by simp))
  have blk2 := hide ((hb2'.out.block g (blk_lt blk1.out)).trans blk1.out)
  have hbel2 : Hid (Below g w w2) := hbel.out.trans (hb2'.out.mono hsz1)
  have hgw := blk_lt blk1.out
  have hn1 : Hid (∀ q, (Value.slice A1 r.takes.size c1).ownBlock = some q → g < q) := fun q hq => by have := own_ge ho1.out q hq; simp at this; omega
  have hn2 : Hid (∀ q, (Value.slice A2 r.gives.size c2).ownBlock = some q → g < q) := fun q hq => by have := own_ge ho2.out q hq; simp at this; omega
  go_wp2_with (refine wpList_store_row rfl 155 _ _ rfl g #[.int .i64 r.code, .string r.name, .int .i64 r.form, .slice A1 r.takes.size c1, .slice A2 r.gives.size c2] rfl rfl 155 _ blk2.out (by kernel_rfl) rfl (by simp [Value.oneCell']) ?_)
  have k1 := setRow_blk (cs := #[.int .i64 r.code, .string r.name, .int .i64 r.form, .slice A1 r.takes.size c1, .slice A2 r.gives.size c2]) blk2.out
  have k3 := setRow_only w2 g #[.int .i64 r.code, .string r.name, .int .i64 r.form, .slice A1 r.takes.size c1, .slice A2 r.gives.size c2]
  have k2 : Below g w _ := hbel2.out.trans (k3.below (Nat.le_of_lt (blk_lt blk2.out)) (by simp))
  generalize w2.setRow g #[.int .i64 r.code, .string r.name, .int .i64 r.form, .slice A1 r.takes.size c1, .slice A2 r.gives.size c2] = W2 at k1 k2 k3 ⊢
  have f0 : W2.cell? ⟨g, 0, none⟩ = some (.int .i64 r.code) := cell_blk k1 0
  have f1 : W2.cell? ⟨g, 1, none⟩ = some (.string r.name) := cell_blk k1 1
  have f2 : W2.cell? ⟨g, 2, none⟩ = some (.int .i64 r.form) := cell_blk k1 2
  have f3 : W2.cell? ⟨g, 3, none⟩ = some (.slice A1 r.takes.size c1) := cell_blk k1 3
  have f4 : W2.cell? ⟨g, 4, none⟩ = some (.slice A2 r.gives.size c2) := cell_blk k1 4
  refine bodyPost_ret (v := .tuple #[.agg #[.int .i64 r.code, .string r.name, .int .i64 r.form, .slice A1 r.takes.size c1, .slice A2 r.gives.size c2], .bool true]) (by simp [results, Try.results67, go_sem, f0, f1, f2, f3, f4]) rfl ?_
  refine ⟨A1, c1, A2, c2, rfl, ?_, ?_, by rw [HG.out]; exact k2⟩
  · exact own_base (own_only3 ho1.out k3 (fun q hq => by have := hn1.out q hq; simp; omega)) (fun q hq => by have := hn1.out q hq; rw [HG.out]; omega)
  · exact own_base (own_only3 ho2.out k3 (fun q hq => by have := hn2.out q hq; simp; omega)) (fun q hq => by have := hn2.out q hq; rw [HG.out]; omega)
end Go.Proofs.Ytdhmkapknaphpaa
