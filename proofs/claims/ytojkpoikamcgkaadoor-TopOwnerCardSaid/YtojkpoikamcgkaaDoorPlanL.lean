/- A region that draws its order, whose last operation stores: walked by a plan; behind the last operation nothing is asked of the world. No program is named here. -/
import Derived.Test.YtojkpoikamcgkaaDoorPlan
namespace Go.Proofs.YtojkpoikamcgkaaDoor
open Go.RowKit
set_option linter.unusedVariables false
set_option linter.unusedSimpArgs false

/-! ### Worlds that continue a world below a block -/
/-- X below block B, u from there on. -/
def extB (B : Nat) (X u : World) : World := { heap := X.heap.extract 0 B ++ u.heap.extract B u.heap.size, tape := X.tape, drawn := u.drawn, os := X.os, output := X.output }
section
variable {B : Nat} {X u w' : World}
theorem heap_extB (hB : B ≤ X.heap.size) {k : Nat} (h : k < B) : (extB B X u).heap[k]? = X.heap[k]? := by
  show (X.heap.extract 0 B ++ _)[k]? = _
  rw [Array.getElem?_append_left (by simp; omega), Array.getElem?_extract]
  rw [if_pos (by omega)]; simp
theorem size_extB (hB : B ≤ X.heap.size) : B ≤ (extB B X u).heap.size := by
  show _ ≤ (X.heap.extract 0 B ++ _).size
  rw [Array.size_append]
  have : (X.heap.extract 0 B).size = B := by simp; omega
  omega
theorem extB_cell (hB : B ≤ X.heap.size) (b o : Nat) (h : b < B) : (extB B X u).cell? ⟨b, o, none⟩ = X.cell? ⟨b, o, none⟩ := World.cell?_of_block (a := ⟨b, o, none⟩) (heap_extB hB h)
theorem lt_extB (hB : B ≤ X.heap.size) {b : Nat} (h : b < B) : b < (extB B X u).heap.size := Nat.lt_of_lt_of_le h (size_extB hB)
theorem extB_of (hB : B ≤ X.heap.size) (h : Below B X w') : ∃ u, w' = extB B X u := by
  refine ⟨w', ?_⟩
  obtain ⟨h1, h2, h3, h4, h5⟩ := h
  obtain ⟨heap, tape, drawn, os, output⟩ := w'
  simp only at h1 h2 h3 h4 h5
  unfold extB
  simp only [World.mk.injEq]
  refine ⟨?_, h2, trivial, h1, h3⟩
  apply Array.ext_getElem?
  intro i
  have hs : (X.heap.extract 0 B).size = B := by simp; omega
  by_cases hi : i < B
  · rw [Array.getElem?_append_left (by omega), Array.getElem?_extract, if_pos (by omega), h5 i hi]; simp
  · rw [Array.getElem?_append_right (by omega), Array.getElem?_extract]
    split
    · congr 1; omega
    · rw [Array.getElem?_eq_none (by omega)]
theorem below_extB (hB : B ≤ X.heap.size) (u : World) (hs : X.heap.size ≤ (extB B X u).heap.size) : Below B X (extB B X u) := ⟨rfl, rfl, rfl, hs, fun k hk => heap_extB hB hk⟩
end

section
variable {P : Program} {ops : Array Oper} {md : Region.Mode} {S : World → Prop} {Q : Exit → Act → World → Prop} {s : Nat}

/-- Whatever order is picked from here on; S holds behind every operation but number s. -/
def wpAnyS (P : Program) (md : Region.Mode) (ops : Array Oper) (Q : Exit → Act → World → Prop) (S : World → Prop) (s : Nat) : Nat → Array Bool → Act → World → Prop
  | 0, listed, a, w => Region.ready md ops listed = [] ∧ Q .normal a w
  | fuel + 1, listed, a, w =>
    (Region.ready md ops listed = [] → Q .normal a w) ∧
    ∀ i ∈ Region.ready md ops listed, wpOp P ops Q i (fun a' w' => (i ≠ s → S w') ∧ wpAnyS P md ops Q S s fuel (listed.setIfInBounds i true) a' w') a w
theorem wpAny_of_S : ∀ (fuel : Nat) (listed : Array Bool) (a : Act) (w : World), wpAnyS P md ops Q S s fuel listed a w → wpAny P md ops Q fuel listed a w
  | 0, _, _, _, h => h
  | fuel + 1, _, _, _, h => ⟨h.1, fun i hi => wpOp_mono (fun a' w' h' => wpAny_of_S fuel _ a' w' h'.2) (h.2 i hi)⟩

theorem wpAnyS_first {i : Nat} {oi : Oper} {v : Value} (hi : ops[i]? = some oi) (hsel : ∀ (j : Nat) (o : Oper) cs b, ops[j]? = some o → o.op ≠ .select cs b)
    (hQ : ∀ c a w, Q (.panic c) (a.put oi.dst v) w → Q (.panic c) a w) (hs : Region.sinkB md ops s = true) (hc : Region.chainB md ops s = true) (hn : s < ops.size) (his : i < s) :
    ∀ (fuel : Nat) (listed : Array Bool) (a : Act) (w : World), HeadInv md ops s listed →
      (∀ j oj, ops[j]? = some oj → j ≠ i → listed.getD j true = false → (∀ e ∈ oj.after, Region.binds md e = true → e.on ≠ i) → oi.apart ops oj = true) →
      i ∈ Region.ready md ops listed → YieldsIf P ops S oi v a → S w →
      wpAnyS P md ops Q S s fuel (listed.setIfInBounds i true) (a.put oi.dst v) w → wpAnyS P md ops Q S s (fuel + 1) listed a w := by
  intro fuel
  induction fuel with
  | zero =>
    intro listed a w inv _ hr hy hS H
    refine ⟨fun h => (by rw [h] at hr; cases hr), fun j hj => ?_⟩
    by_cases hji : j = i
    · subst hji; exact hy.wpOp hi hS ⟨fun _ => hS, H⟩
    · have := ready_mono hj hji
      rw [H.1] at this
      cases this
  | succ fuel ih =>
    intro listed a w inv hfree hr hy hS H
    refine ⟨fun h => (by rw [h] at hr; cases hr), fun j hj => ?_⟩
    by_cases hji : j = i
    · subst hji; exact hy.wpOp hi hS ⟨fun _ => hS, H⟩
    · have hun := (mem_ready.1 hr).1
      have hjs : j < s := by
        rcases Nat.lt_or_ge j s with h | h
        · exact h
        · exact absurd hj (tail_waits hs hc hn inv _ i rfl his hun j h)
      have h1 := H.2 j (ready_mono hj hji)
      obtain ⟨hjun, oj, hoj, hall⟩ := mem_ready.1 hj
      have hnot : ∀ e ∈ oj.after, Region.binds md e = true → e.on ≠ i := fun e he hb heq => by
        have h1 := hall e he hb
        rw [heq, getD_both hun] at h1
        cases h1
      have h2 := wpOp_putIf hoj (hfree j oj hoj hji hjun hnot) (fun cs b => hsel i oi cs b hi) (fun cs b => hsel j oj cs b hoj) hQ hy h1
      have hfree' : ∀ k ok, ops[k]? = some ok → k ≠ i → (listed.setIfInBounds j true).getD k true = false →
          (∀ e ∈ ok.after, Region.binds md e = true → e.on ≠ i) → oi.apart ops ok = true := fun k ok hk hki hun hno => by
        refine hfree k ok hk hki ?_ hno
        by_cases hjk : j = k
        · subst hjk; exact hjun
        · rw [getD_set_ne true hjk] at hun; exact hun
      refine wpOp_mono (fun a' w' h3 => ⟨h3.2.1, ih (listed.setIfInBounds j true) a' w' (inv.set hj hjs) hfree' (ready_mono hr (Ne.symm hji)) h3.1 (h3.2.1 (by omega)) ?_⟩) h2
      rw [Array.setIfInBounds_comm _ _ hji]
      exact h3.2.2

/-- The plan's conditions, with the last operation left out. -/
def takesL (md : Region.Mode) (ops : Array Oper) (s : Nat) : List Nat → Array Bool → Bool
  | [], _ => true
  | i :: q, listed => decide (i < s) && givesB (pickO ops.toList i).op && (Region.ready md ops listed).contains i && Region.free md ops listed i && takesL md ops s q (listed.setIfInBounds i true)
def runsL (md : Region.Mode) (ops : Array Oper) (s : Nat) : List Nat → Array Bool → Bool
  | [], _ => true
  | i :: r, listed => decide (i < s) && decide (Region.ready md ops listed = [i]) && runsL md ops s r (listed.setIfInBounds i true)
def planL (md : Region.Mode) (ops : Array Oper) (s : Nat) : List (List Nat × List Nat) → Array Bool → Bool
  | [], listed => decide (Region.ready md ops listed = [s]) && (Region.ready md ops (listed.setIfInBounds s true)).isEmpty
  | (q, r) :: rest, listed => takesL md ops s q listed && runsL md ops s r (setAll listed q) && planL md ops s rest (setAll (setAll listed q) r)
/-- As wpPlan, with what follows the plan told. -/
def wpPlanK (P : Program) (ops : Array Oper) (S : World → Prop) (Q : Exit → Act → World → Prop) (K : Act → World → Prop) : List (List Oper × List Oper) → Act → World → Prop
  | [], a, w => K a w
  | (q, r) :: rest, a, w => wpQuiet P ops S (fun a' => wpRuns P ops S Q (wpPlanK P ops S Q K rest) r a' w) q a

theorem setAll_inv : ∀ (q : List Nat) (listed : Array Bool), takesL md ops s q listed = true → HeadInv md ops s listed → HeadInv md ops s (setAll listed q)
  | [], listed, _, inv => inv
  | i :: q, listed, hB, inv => by
    simp only [takesL, Bool.and_eq_true, decide_eq_true_eq] at hB
    obtain ⟨⟨⟨⟨h1, h2⟩, h3⟩, h4⟩, h5⟩ := hB
    exact setAll_inv q _ h5 (inv.set (by simpa using h3) h1)
theorem runs_inv : ∀ (q : List Nat) (listed : Array Bool), runsL md ops s q listed = true → HeadInv md ops s listed → HeadInv md ops s (setAll listed q)
  | [], listed, _, inv => inv
  | i :: q, listed, hB, inv => by
    simp only [runsL, Bool.and_eq_true, decide_eq_true_eq] at hB
    obtain ⟨⟨h1, h2⟩, h3⟩ := hB
    exact runs_inv q _ h3 (inv.set (by rw [h2]; simp) h1)

theorem planS_takes (hsel : Region.noSelect ops = true) (hs : Region.sinkB md ops s = true) (hc : Region.chainB md ops s = true) (hn : s < ops.size) {fuel : Nat} {w : World} (hS : S w) : ∀ (q : List Nat) (listed : Array Bool) (a : Act), HeadInv md ops s listed → takesL md ops s q listed = true →
    wpQuiet P ops S (fun a' => wpAnyS P md ops (OnlyN Q) S s fuel (setAll listed q) a' w) (q.map (pickO ops.toList)) a → wpAnyS P md ops (OnlyN Q) S s (q.length + fuel) listed a w
  | [], listed, a, _, _, h => by
    simp only [List.length_nil, Nat.zero_add]
    exact h
  | i :: q, listed, a, inv, hB, h => by
    simp only [takesL, Bool.and_eq_true, decide_eq_true_eq] at hB
    obtain ⟨⟨⟨⟨h1, h2⟩, h3⟩, h4⟩, h5⟩ := hB
    have ho := pick_get (ops := ops) (show i < ops.size by omega)
    have hq : qOp P ops S i (wpQuiet P ops S (fun a' => wpAnyS P md ops (OnlyN Q) S s fuel (setAll (listed.setIfInBounds i true) q) a' w) (q.map (pickO ops.toList))) a := by
      unfold qOp
      simp only [ho]
      exact h
    obtain ⟨v, hy, hK⟩ := yieldsIn_of_qOp ho hq
    have e : (i :: q).length + fuel = (q.length + fuel) + 1 := by simp only [List.length_cons]; omega
    rw [e]
    have hr : i ∈ Region.ready md ops listed := by simpa using h3
    exact wpAnyS_first ho (Region.noSelect_spec hsel) (fun _ _ _ h => h) hs hc hn h1 _ listed a w inv (Region.free_spec ho h4) hr (yieldsIf_of h2 hy) hS (planS_takes hsel hs hc hn hS q _ _ (inv.set hr h1) h5 hK)

theorem planS_runs {fuel : Nat} {K : Act → World → Prop} : ∀ (r : List Nat) (listed : Array Bool) (a : Act) (w : World), S w → runsL md ops s r listed = true → s < ops.size →
    (∀ a' w', S w' → K a' w' → wpAnyS P md ops (OnlyN Q) S s fuel (setAll listed r) a' w') → wpRuns P ops S Q K (r.map (pickO ops.toList)) a w → wpAnyS P md ops (OnlyN Q) S s (r.length + fuel) listed a w
  | [], listed, a, w, hS, _, _, hK, h => by
    simp only [List.length_nil, Nat.zero_add]
    exact hK a w hS h
  | i :: r, listed, a, w, hS, hB, hn, hK, h => by
    simp only [runsL, Bool.and_eq_true, decide_eq_true_eq] at hB
    obtain ⟨⟨h1, h2⟩, h3⟩ := hB
    have ho := pick_get (ops := ops) (show i < ops.size by omega)
    have e : (i :: r).length + fuel = (r.length + fuel) + 1 := by simp only [List.length_cons]; omega
    rw [e]
    refine ⟨fun h0 => (by rw [h2] at h0; cases h0), fun j hj => ?_⟩
    rw [h2] at hj
    obtain rfl : j = i := by simpa using hj
    exact wpOp_mono (fun a' w' h' => ⟨fun _ => h'.1, planS_runs r _ a' w' h'.1 h3 hn hK h'.2⟩) (run_one ho h)

theorem quiet_mono {C : World → Prop} : ∀ (l : List Oper) (a : Act) (Q1 Q2 : Act → Prop), (∀ a, Q1 a → Q2 a) → wpQuiet P ops C Q1 l a → wpQuiet P ops C Q2 l a := by
  intro l
  induction l with
  | nil => intro a Q1 Q2 hq hh; exact hq _ hh
  | cons o l ih =>
    intro a Q1 Q2 hq hh
    unfold wpQuiet at hh ⊢
    split
    · rename_i hw
      rw [if_pos hw] at hh
      exact Oper.quiet_mono (fun a ha => ih a Q1 Q2 hq ha) hh
    · rename_i hw
      rw [if_neg hw] at hh
      exact ih _ Q1 Q2 hq hh

theorem planS_all (hsel : Region.noSelect ops = true) (hs : Region.sinkB md ops s = true) (hc : Region.chainB md ops s = true) (hn : s < ops.size) : ∀ (plan : List (List Nat × List Nat)) (listed : Array Bool) (a : Act) (w : World), S w → HeadInv md ops s listed → planL md ops s plan listed = true →
    wpPlanK P ops S Q (fun a w => wpList P ops (Exit.then (fun a w => Q .normal a w) (OnlyN Q)) [pickO ops.toList s] a w) (plan.map fun p => (p.1.map (pickO ops.toList), p.2.map (pickO ops.toList))) a w → wpAnyS P md ops (OnlyN Q) S s (planLen plan + 1) listed a w
  | [], listed, a, w, hS, inv, hB, h => by
    simp only [planL, Bool.and_eq_true, decide_eq_true_eq] at hB
    obtain ⟨h1, h2⟩ := hB
    refine ⟨fun h0 => (by rw [h1] at h0; cases h0), fun j hj => ?_⟩
    rw [h1] at hj
    obtain rfl : j = s := by simpa using hj
    exact wpOp_mono (fun a' w' h' => ⟨fun h => absurd rfl h, (by simpa using h2), h'⟩) (run_one (pick_get hn) h)
  | (q, r) :: rest, listed, a, w, hS, inv, hB, h => by
    simp only [planL, Bool.and_eq_true] at hB
    obtain ⟨⟨h1, h2⟩, h3⟩ := hB
    have e : planLen ((q, r) :: rest) + 1 = q.length + (r.length + (planLen rest + 1)) := by show q.length + (r.length + planLen rest) + 1 = _; omega
    rw [e]
    refine planS_takes hsel hs hc hn hS q listed a inv h1 ?_
    exact quiet_mono _ _ _ _ (fun a' ha => planS_runs r _ a' w hS h2 hn (fun a2 w2 hS2 hK => planS_all hsel hs hc hn rest _ a2 w2 hS2 (runs_inv r _ h2 (setAll_inv q _ h1 inv)) h3 hK) ha) h
end

/-- The region's law: by a plan, and the last operation behind it. -/
theorem wp_region_planl {P : Program} {id : Nat} {Q : Exit → Act → World → Prop} {a : Act} {w : World} {l : List Oper} (S : World → Prop) (plan : List (List Nat × List Nat)) (s : Nat) (hm : P.follows .mixedOrders = true)
    (hB : (Region.noSelect l.toArray && decide (planLen plan + 1 = l.length) && decide (s < l.length) && Region.sinkB .any l.toArray s && Region.chainB .any l.toArray s && planL .any l.toArray s plan (Array.replicate l.length false)) = true) (hS : S w.drew)
    (h : wpPlanK P l.toArray S Q (fun a w => wpList P l.toArray (Exit.then (fun a w => Q .normal a w) (OnlyN Q)) [pickO l s] a w) (plan.map fun p => (p.1.map (pickO l), p.2.map (pickO l))) a w.drew) : (Code.region id l.toArray true).wp P Q a w := by
  simp only [Bool.and_eq_true, decide_eq_true_eq] at hB
  obtain ⟨⟨⟨⟨⟨h1, h2⟩, h3⟩, h4⟩, h5⟩, h6⟩ := hB
  refine Code.wp_mono (Q := OnlyN Q) (fun e a w h => ?_) ?_
  · cases e with
    | normal => exact h
    | _ => exact h.elim
  · refine wp_region_any hm (wpAny_of_S (S := S) (s := s) _ _ _ _ ?_)
    have inv0 : HeadInv .any l.toArray s (Array.replicate l.length false) :=
      ⟨by simp, fun j oj _ hl => (by rw [getD_replicate_false] at hl; cases hl), fun t _ ht => getD_in (by simpa using ht) (getD_replicate_false _ _)⟩
    have := planS_all (P := P) (md := .any) (S := S) (Q := Q) h1 h4 h5 (by simpa using h3) plan (Array.replicate l.length false) a w.drew hS inv0 h6 (by simpa using h)
    rw [h2] at this
    simpa using this
/-- What a step of a plan asks, in the worlds that are X below B. -/
theorem nxt_b {B : Nat} {X w' : World} {K : Act → World → Prop} {a : Act} (hB : B ≤ X.heap.size) (h : Below B X w') (k : K a w') : Nxt (fun w' => ∃ u, w' = extB B X u) K a w' := ⟨extB_of hB h, k⟩
end Go.Proofs.YtojkpoikamcgkaaDoor
