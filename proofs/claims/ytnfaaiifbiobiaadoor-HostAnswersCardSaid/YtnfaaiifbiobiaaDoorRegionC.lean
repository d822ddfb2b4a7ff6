/-
  A region that draws its order, one of whose operations writes (a call): by what each operation leaves; what the writing one leaves stands at the end.
-/
import Derived.Test.YtnfaaiifbiobiaaDoorRegionR
namespace Go.Proofs.YtnfaaiifbiobiaaDoor
open Go.RowKit
set_option linter.unusedVariables false

section
variable {P : Program} {ops : Array Oper}
/-- an operation's obligation: of one that does not write (R); of the one that writes (R') -/
structure ObC (R R' : World → World → Prop) (P : Program) (l : List Oper) (F : Nat → Value → World → Prop) (a0 : Act) (w0 : World) (c i : Nat) (o : Oper) : Prop where
  run : ∀ (ρ : Operand → Value) (W : World), KnowR R' l F a0 w0 o ρ W → (i = c → R w0 W) →
    (match o.guard with
     | none => OpOut P o ρ W (fun v w' => (if i = c then R' W w' else R W w') ∧ F i v w')
     | some (g, want) => i ≠ c ∧ ∃ d, (l[g]?).bind (·.dst) = some d ∧ ((∃ b, ρ (.tmp d) = .bool b ∧ (b = want → OpOut P o ρ W (fun v w' => R W w' ∧ F i v w')) ∧ (b ≠ want → F i undef W)) ∨ (ρ (.tmp d) = undef ∧ F i undef W)))
theorem ObC.plain {R R' : World → World → Prop} {P : Program} {l : List Oper} {F : Nat → Value → World → Prop} {a0 : Act} {w0 : World} {c i : Nat} {o : Oper} (hi : i ≠ c) (hg : o.guard = none)
    (h : ∀ (ρ : Operand → Value) (W : World), KnowR R' l F a0 w0 o ρ W → OpOut P o ρ W (fun v w' => R W w' ∧ F i v w')) : ObC R R' P l F a0 w0 c i o :=
  ⟨fun ρ W hk _ => by rw [hg]; simp only [if_neg hi]; exact h ρ W hk⟩
theorem ObC.guarded {R R' : World → World → Prop} {P : Program} {l : List Oper} {F : Nat → Value → World → Prop} {a0 : Act} {w0 : World} {c i : Nat} {o : Oper} {g : Nat} {want : Bool} (hi : i ≠ c) (hg : o.guard = some (g, want))
    (h : ∀ (ρ : Operand → Value) (W : World), KnowR R' l F a0 w0 o ρ W → ∃ d, (l[g]?).bind (·.dst) = some d ∧ ((∃ b, ρ (.tmp d) = .bool b ∧ (b = want → OpOut P o ρ W (fun v w' => R W w' ∧ F i v w')) ∧ (b ≠ want → F i undef W)) ∨ (ρ (.tmp d) = undef ∧ F i undef W))) : ObC R R' P l F a0 w0 c i o :=
  ⟨fun ρ W hk _ => by rw [hg]; exact ⟨hi, h ρ W hk⟩⟩
theorem ObC.writes {R R' : World → World → Prop} {P : Program} {l : List Oper} {F : Nat → Value → World → Prop} {a0 : Act} {w0 : World} {c : Nat} {o : Oper} (hg : o.guard = none)
    (h : ∀ (ρ : Operand → Value) (W : World), KnowR R' l F a0 w0 o ρ W → R w0 W → OpOut P o ρ W (fun v w' => R' W w' ∧ F c v w')) : ObC R R' P l F a0 w0 c c o :=
  ⟨fun ρ W hk hw => by rw [hg]; simp only [if_true]; exact h ρ W hk (hw rfl)⟩
def ObsC (R R' : World → World → Prop) (P : Program) (l : List Oper) (F : Nat → Value → World → Prop) (a0 : Act) (w0 : World) (c : Nat) : List Oper → Nat → Prop
  | [], _ => True
  | o :: r, i => ObC R R' P l F a0 w0 c i o ∧ ObsC R R' P l F a0 w0 c r (i + 1)
theorem obsC_at {R R' : World → World → Prop} {P : Program} {L : List Oper} {F : Nat → Value → World → Prop} {a0 : Act} {w0 : World} {c : Nat} : ∀ (l : List Oper) (k : Nat), ObsC R R' P L F a0 w0 c l k → ∀ (i : Nat) o, l[i]? = some o → ObC R R' P L F a0 w0 c (k + i) o := by
  intro l
  induction l with
  | nil => intro k _ i o h; simp at h
  | cons o r ih =>
    intro k h i p hp
    cases i with
    | zero =>
      have hpo : o = p := by simpa using hp
      subst hpo
      exact h.1
    | succ i =>
      have := ih (k + 1) h.2 i p (by simpa using hp)
      rw [show k + 1 + i = k + (i + 1) from by omega] at this
      exact this
/-- what is known in the middle of the region -/
structure MidC (R R' : World → World → Prop) (l : List Oper) (F : Nat → Value → World → Prop) (a0 : Act) (w0 : World) (c : Nat) (listed : Array Bool) (a : Act) (w : World) : Prop where
  size : listed.size = l.length
  df : a.defers = a0.defers
  tsize : a.tmps.size = a0.tmps.size
  below : R' w0 w
  still : listed[c]? ≠ some true → R w0 w
  old : ∀ t, (∀ (i : Nat) o, l[i]? = some o → listed[i]? = some true → o.dst ≠ some t) → a.tmps[t]? = a0.tmps[t]?
  facts : ∀ (i : Nat) o, l[i]? = some o → listed[i]? = some true → ∃ d v, o.dst = some d ∧ a.tmps[d]? = some v ∧ WasR R' (F i) v w ∧ (i = c → WasR R (F c) v w)
theorem step_obC {R R' : World → World → Prop} (hR : IsExt R) {Q : Exit → Act → World → Prop} {l : List Oper} {F : Nat → Value → World → Prop} {a0 : Act} {w0 : World} {c i : Nat} {o : Oper} {d : Tmp} {a : Act} {W : World} {K : Act → World → Prop}
    (hops : ∀ i : Nat, ops[i]? = l[i]?) (ho : ops[i]? = some o) (hd : o.dst = some d) (h : ObC R R' P l F a0 w0 c i o) (hk : KnowR R' l F a0 w0 o a.eval W) (hkc : i = c → R w0 W) (hK : ∀ v w', (if i = c then R' W w' else R W w') → F i v w' → K (a.put (some d) v) w') : wpOp P ops Q i K a W := by
  have hout : OpOut P o a.eval W (fun v w' => (if i = c then R' W w' else R W w') ∧ F i v w') → o.wp P a W K Q := by
    intro ⟨h⟩
    unfold Oper.wp
    generalize (execOp a.eval o).run P W = r at h ⊢
    cases r with
    | ok n w' =>
      cases n with
      | value v => simp only [Oper.upon, hd] at h ⊢; exact hK v w' h.1 h.2
      | skip => simp only [Oper.upon, hd] at h ⊢; exact hK undef w' h.1 h.2
      | enter f args =>
        simp only [Oper.upon, hd] at h ⊢
        refine Calls.mono h fun e w'' hh => ?_
        obtain ⟨v, rfl, h1, h2⟩ := hh
        exact hK v w'' h1 h2
      | _ => exact h.elim
    | halt x w' => exact h.elim
  unfold wpOp
  simp only [ho]
  have h := h.run a.eval W hk hkc
  cases hg : o.guard with
  | none =>
    rw [hg] at h
    have hw : Region.wanted o (yielded ops a.tmps) = true := by simp [Region.wanted, hg]
    rw [if_pos hw]
    exact .inl (hout h)
  | some gw =>
    obtain ⟨g, want⟩ := gw
    rw [hg] at h
    obtain ⟨hic, dg, h1, ⟨b, h2, h3, h4⟩ | ⟨h2, h4⟩⟩ := h
    rotate_left
    · have hy : yielded ops a.tmps g ≠ some want := by
        unfold yielded
        rw [hops g, h1]
        have h2' : a.tmps.getD dg undef = undef := h2
        rw [Array.getD_eq_getD_getElem?] at h2'
        cases hx : a.tmps[dg]? with
        | none => simp [hx]
        | some u =>
          rw [hx] at h2'
          simp only [Option.getD_some] at h2'
          subst h2'
          simp [hx, undef]
      have hw : Region.wanted o (yielded ops a.tmps) = false := by simpa [Region.wanted, hg] using hy
      rw [hw, if_neg (by simp), hd]
      exact hK undef W (by rw [if_neg hic]; exact hR.refl _) h4
    have hy : yielded ops a.tmps g = some b := by
      unfold yielded
      rw [hops g, h1]
      have h2' : a.tmps.getD dg undef = .bool b := h2
      rw [Array.getD_eq_getD_getElem?] at h2'
      cases hx : a.tmps[dg]? with
      | none => rw [hx] at h2'; simp [undef] at h2'
      | some u => rw [hx] at h2'; simp only [Option.getD_some] at h2'; subst h2'; simp [hx]
    have hw : Region.wanted o (yielded ops a.tmps) = (some b == some want) := by simp [Region.wanted, hg, hy]
    rw [hw]
    by_cases hb : b = want
    · subst hb
      rw [if_pos (by simp)]
      refine .inl (hout ?_)
      simp only [if_neg hic]
      exact h3 rfl
    · rw [if_neg (by simpa using hb), hd]
      exact hK undef W (by rw [if_neg hic]; exact hR.refl _) (h4 hb)

theorem any_of_midC {R R' : World → World → Prop} (hR : IsExt R) (hR' : IsExt R') (hsub : ∀ a b, R a b → R' a b) {c : Nat} {Q : Exit → Act → World → Prop} {l : List Oper} {F : Nat → Value → World → Prop} {a0 : Act} {w0 : World} (hops : ops = l.toArray) (hok : okB a0.tmps.size l 0 = true)
    (hobs : ObsC R R' P l F a0 w0 c l 0) (hcl : c < l.length)
    (hend : ∀ (vs : Nat → Value) (W : World), R' w0 W → (∀ i, i < l.length → WasR R' (F i) (vs i) W) → WasR R (F c) (vs c) W → Q .normal (fillL l 0 vs a0) W) :
    ∀ (fuel : Nat) (listed : Array Bool) (a : Act) (w : World), MidC R R' l F a0 w0 c listed a w → (listed.toList.count false ≤ fuel) → wpAny P .any ops Q fuel listed a w := by
  have hsz : ops.size = l.length := by rw [hops]; simp
  have hget : ∀ (i : Nat), ops[i]? = l[i]? := fun i => by rw [hops]; simp
  -- nothing is ready: all has been done
  have fin : ∀ (listed : Array Bool) (a : Act) (w : World), MidC R R' l F a0 w0 c listed a w → Region.ready .any ops listed = [] → Q .normal a w := by
    intro listed a w hM hr
    have hall : ∀ (i : Nat), i < l.length → listed[i]? = some true := by
      intro i
      induction i using Nat.strongRecOn with
      | ind i ih =>
        intro hi
        have hli : l[i]? = some l[i] := List.getElem?_eq_getElem hi
        obtain ⟨_, hdep⟩ := okB_at l 0 hok i _ hli
        have hls : i < listed.size := by rw [hM.size]; exact hi
        cases hv : listed[i] with
        | true => rw [Array.getElem?_eq_getElem hls, hv]
        | false =>
          exfalso
          have hmem : i ∈ Region.ready .any ops listed := by
            unfold Region.ready
            refine List.mem_filter.2 ⟨List.mem_range.2 (by rw [hsz]; exact hi), ?_⟩
            have h1 : listed.getD i true = false := by simp [Array.getD, hls, hv]
            rw [h1, hget i, hli]
            simp only [Bool.not_false, Bool.true_and, Option.map_some, Option.getD_some]
            rw [Array.all_eq_true']
            intro e he
            cases hbn : Region.binds .any e with
            | false => rfl
            | true =>
              have hj : e.on ∈ depsOf l[i] := List.mem_map.2 ⟨e, List.mem_filter.2 ⟨by simpa using he, hbn⟩, rfl⟩
              have hlt := hdep _ hj
              have := ih e.on (by omega) (by omega)
              simp [Array.getD_eq_getD_getElem?, this]
          rw [hr] at hmem
          cases hmem
    have key : a = fillL l 0 (fun i => a.tmps.getD (((l[i]?).bind (·.dst)).getD 0) undef) a0 := by
      obtain ⟨at_, ad⟩ := a
      have hdf := hM.df
      simp only at hdf
      have e2 := fill_df l 0 (fun i => at_.getD (((l[i]?).bind (·.dst)).getD 0) undef) a0
      suffices hh : at_ = (fillL l 0 (fun i => at_.getD (((l[i]?).bind (·.dst)).getD 0) undef) a0).tmps by
        cases hf : fillL l 0 (fun i => at_.getD (((l[i]?).bind (·.dst)).getD 0) undef) a0 with
        | mk t dd =>
          rw [hf] at hh e2
          simp only at hh e2
          rw [hdf, ← e2, ← hh]
      apply Array.ext_getElem?
      intro t
      by_cases hx : ∃ (i : Nat) (o : Oper), l[i]? = some o ∧ o.dst = some t
      · obtain ⟨i, o, hi, hd⟩ := hx
        obtain ⟨⟨d, h1, h2, h3⟩, _⟩ := okB_at l 0 hok i o hi
        rw [hd] at h1
        injection h1 with h1
        subst h1
        rw [fill_at a0 _ l 0 i o t hi hd h2 h3, Nat.zero_add, hi]
        obtain ⟨d', v, g1, g2, _, _⟩ := hM.facts i o hi (hall i (List.getElem?_eq_some_iff.1 hi).1)
        rw [hd] at g1
        injection g1 with g1
        subst g1
        simp only at g2
        rw [g2]
        simp [hd, Array.getD_eq_getD_getElem?, g2]
      · rw [fill_other t l 0 _ a0 (fun o ho hd => by
          obtain ⟨i, hi, hio⟩ := List.getElem_of_mem ho
          exact hx ⟨i, o, by rw [List.getElem?_eq_getElem hi, hio], hd⟩)]
        exact hM.old t (fun i o hi _ hd => hx ⟨i, o, hi, hd⟩)
    rw [key]
    refine hend _ w hM.below (fun i hi => ?_) ?_
    · have hli : l[i]? = some l[i] := List.getElem?_eq_getElem hi
      obtain ⟨d, v, g1, g2, g3, _⟩ := hM.facts i _ hli (hall i hi)
      rw [hli]
      simp only [Option.bind_some, g1, Option.getD_some, Array.getD_eq_getD_getElem?, g2]
      exact g3
    · have hli : l[c]? = some l[c] := List.getElem?_eq_getElem hcl
      obtain ⟨d, v, g1, g2, _, g3⟩ := hM.facts c _ hli (hall c hcl)
      rw [hli]
      simp only [Option.bind_some, g1, Option.getD_some, Array.getD_eq_getD_getElem?, g2]
      exact g3 rfl
  intro fuel
  induction fuel with
  | zero =>
    intro listed a w hM hc
    have hr : Region.ready .any ops listed = [] := by
      apply List.eq_nil_iff_forall_not_mem.2
      intro i hi
      obtain ⟨h1, h2⟩ := List.mem_filter.1 hi
      have hlt : i < listed.size := by rw [hM.size, ← hsz]; exact List.mem_range.1 h1
      simp only [Bool.and_eq_true, Bool.not_eq_true'] at h2
      have hf : listed[i] = false := by have := h2.1; simpa [Array.getD, hlt] using this
      have : 0 < listed.toList.count false := List.count_pos_iff.2 (by rw [← hf]; simp)
      omega
    exact ⟨hr, fin listed a w hM hr⟩
  | succ fuel ih =>
    intro listed a w hM hc
    refine ⟨fin listed a w hM, fun i hi => ?_⟩
    obtain ⟨h1, h2⟩ := List.mem_filter.1 hi
    have hlt : i < l.length := by rw [← hsz]; exact List.mem_range.1 h1
    have hlts : i < listed.size := by rw [hM.size]; exact hlt
    have hli : l[i]? = some l[i] := List.getElem?_eq_getElem hlt
    rw [hget i, hli] at h2
    simp only [Bool.and_eq_true, Bool.not_eq_true', Option.map_some, Option.getD_some] at h2
    obtain ⟨hun, hdeps⟩ := h2
    have hunf : listed[i] = false := by simpa [Array.getD, hlts] using hun
    obtain ⟨⟨d, hd, hdn, hdis⟩, hdep⟩ := okB_at l 0 hok i _ hli
    have hdl : ∀ j, j ∈ depsOf l[i] → listed[j]? = some true := by
      intro j hj
      obtain ⟨e, he, rfl⟩ := List.mem_map.1 hj
      obtain ⟨he1, he2⟩ := List.mem_filter.1 he
      have := Array.all_eq_true'.1 hdeps e (by simpa using he1)
      rw [he2] at this
      simp only [Bool.not_true, Bool.false_or] at this
      rw [Array.getD_eq_getD_getElem?] at this
      cases hx : listed[e.on]? with
      | none => rw [hx] at this; simp at this
      | some b => rw [hx] at this; simp at this; rw [this]
    have hob := obsC_at l 0 hobs i _ hli
    rw [Nat.zero_add] at hob
    have hknow : KnowR R' l F a0 w0 l[i] a.eval w := by
      refine ⟨hM.below, fun v => rfl, fun f => rfl, fun g => rfl, fun t ht => ?_, fun j d' hj hjd => ?_⟩
      · have := hM.old t (fun j o hj _ hdj => by
          have := List.all_eq_true.1 ht o (List.mem_of_getElem? hj)
          rw [hdj] at this
          simp at this)
        show a.tmps.getD t undef = _
        rw [Array.getD_eq_getD_getElem?, this, Array.getD_eq_getD_getElem?]
      · have hj' : j ∈ depsOf l[i] := by simpa using hj
        have hlj := hdl j hj'
        have hjl : j < l.length := by have := hdep j hj'; omega
        obtain ⟨d2, v, g1, g2, g3, _⟩ := hM.facts j _ (List.getElem?_eq_getElem hjl) hlj
        rw [List.getElem?_eq_getElem hjl, Option.bind_some, g1] at hjd
        injection hjd with hjd
        subst hjd
        show WasR R' (F j) (a.tmps.getD d2 undef) w
        rw [Array.getD_eq_getD_getElem?, g2]
        exact g3
    have hstill : i = c → R w0 w := fun e => hM.still (by rw [← e, Array.getElem?_eq_getElem hlts, hunf]; simp)
    refine step_obC hR hget (by rw [hget]; exact hli) hd hob hknow hstill fun v w' hb0 hF => ih _ _ _ ?_ ?_
    · have hset : ∀ (j : Nat), (listed.setIfInBounds i true)[j]? = some true → j = i ∨ listed[j]? = some true := by
        intro j hj
        by_cases hji : j = i
        · exact .inl hji
        · right
          rw [Array.getElem?_setIfInBounds_ne (fun e => hji e.symm)] at hj
          exact hj
      have hb : R' w w' := by
        by_cases hic : i = c
        · rw [if_pos hic] at hb0; exact hb0
        · rw [if_neg hic] at hb0; exact hsub _ _ hb0
      refine ⟨by simp [hM.size], by rw [put_df]; exact hM.df, by rw [put_size]; exact hM.tsize, hR'.trans hM.below hb, fun hc => ?_, fun t ht => ?_, fun j o hj hlj => ?_⟩
      · by_cases hic : i = c
        · exfalso
          apply hc
          rw [← hic]
          simp [hlts]
        · rw [if_neg hic] at hb0
          refine hR.trans (hM.still ?_) hb0
          rw [Array.getElem?_setIfInBounds_ne hic] at hc
          exact hc
      · rw [put_get_ne _ _ _ _ (fun e => ?_)]
        · refine hM.old t fun j o hj hlj => ht j o hj ?_
          by_cases hji : j = i
          · subst hji
            simp [hlts]
          · rw [Array.getElem?_setIfInBounds_ne (fun e => hji e.symm)]; exact hlj
        · exact ht i _ hli (by simp [hlts]) (hd.trans e)
      · by_cases hji : j = i
        · subst hji
          rw [hli] at hj
          injection hj with hj
          subst hj
          exact ⟨d, v, hd, put_get _ _ _ (by rw [hM.tsize]; exact hdn), ⟨w', hR'.refl _, hF⟩, fun e => by rw [e] at hF; exact ⟨w', hR.refl _, hF⟩⟩
        · have hlj' := (hset j hlj).resolve_left hji
          obtain ⟨d', v', g1, g2, g3, g4⟩ := hM.facts j o hj hlj'
          refine ⟨d', v', g1, ?_, g3.more hR' hb, fun e => ?_⟩
          case refine_2 =>
            have hic : i ≠ c := fun e2 => hji (by rw [e, e2])
            rw [if_neg hic] at hb0
            exact (g4 e).more hR hb0
          rw [put_get_ne _ _ _ _ (fun e => ?_)]
          · exact g2
          · injection e with e
            subst e
            obtain ⟨⟨d2, q1, _, q3⟩, _⟩ := okB_at l 0 hok j o hj
            rw [g1] at q1
            injection q1 with q1
            subst q1
            rcases Nat.lt_or_gt_of_ne hji with hh | hh
            · exact q3 i _ hli hh hd
            · exact hdis j o hj hh g1
    · have hlen : i < listed.toList.length := by simpa using hlts
      have hcnt : (listed.setIfInBounds i true).toList.count false + 1 = listed.toList.count false := by
        rw [Array.toList_setIfInBounds, List.count_set hlen]
        have h3 : listed.toList[i] = false := by simpa using hunf
        rw [h3]
        have hpos : 0 < listed.toList.count false := List.count_pos_iff.2 (by rw [← h3]; exact List.getElem_mem hlen)
        rw [if_pos (by decide), if_neg (by decide)]
        omega
      omega


/-- A REGION THAT DRAWS ITS ORDER, BY FACTS, ONE OPERATION (number c) WRITES -/
theorem wp_region_factsC {R R' : World → World → Prop} (hR : IsExt R) (hR' : IsExt R') (hsub : ∀ a b, R a b → R' a b) (c : Nat) {id : Nat} {l : List Oper} {Q : Exit → Act → World → Prop} {a0 : Act} {w0 : World} (F : Nat → Value → World → Prop) (hm : P.follows .mixedOrders = true) (hok : okB a0.tmps.size l 0 = true) (hcl : c < l.length)
    (hobs : ObsC R R' P l F a0 w0 c l 0)
    (hend : ∀ (vs : Nat → Value) (W : World), R' w0 W → (∀ i, i < l.length → WasR R' (F i) (vs i) W) → WasR R (F c) (vs c) W → Q .normal (fillL l 0 vs a0) W) : (Code.region id l.toArray true).wp P Q a0 w0 := by
  refine wp_region_any hm (any_of_midC hR hR' hsub rfl hok hobs hcl hend _ _ _ _ ⟨by simp, rfl, rfl, hR'.drew _, fun _ => hR.drew _, fun t _ => rfl, fun i o hi hl => ?_⟩ ?_)
  · exfalso
    rw [Array.getElem?_replicate] at hl
    split at hl <;> simp at hl
  · rw [Array.toList_replicate]
    refine Nat.le_trans List.count_le_length ?_
    simp
end
end Go.Proofs.YtnfaaiifbiobiaaDoor
