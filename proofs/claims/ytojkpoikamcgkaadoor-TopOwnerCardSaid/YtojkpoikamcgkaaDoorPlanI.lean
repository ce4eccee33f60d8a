/- The plans of XPlan and XPlanL, a step at a time, what follows kept behind a letter. No program is named here. -/
import Derived.Test.YtojkpoikamcgkaaDoorPlanL
namespace Go.Proofs.YtojkpoikamcgkaaDoor
open Go.RowKit
set_option linter.unusedVariables false
set_option linter.unusedSimpArgs false

section
variable {P : Program} {l : List Oper} {S : World → Prop} {Q : Exit → Act → World → Prop} {K : Act → World → Prop} {q r : List Nat} {rest : List (List Nat × List Nat)} {a : Act} {w : World}
/-- The plan from here on: what is left of the block at hand (to be run), the blocks behind it, and the end. -/
def PlanK (P : Program) (l : List Oper) (S : World → Prop) (Q : Exit → Act → World → Prop) (K : Act → World → Prop) (plan : List (List Nat × List Nat)) (a : Act) (w : World) : Prop :=
  wpPlanK P l.toArray S Q K (plan.map fun p => (p.1.map (pickO l), p.2.map (pickO l))) a w
def RunK (P : Program) (l : List Oper) (S : World → Prop) (Q : Exit → Act → World → Prop) (K : Act → World → Prop) (plan : List (List Nat × List Nat)) (r : List Nat) (a : Act) (w : World) : Prop :=
  wpRuns P l.toArray S Q (PlanK P l S Q K plan) (r.map (pickO l)) a w
/-- Take the block's loads. -/
theorem plan_take (h : ∀ K' : Act → Prop, (∀ a', RunK P l S Q K rest r a' w → K' a') → wpQuiet P l.toArray S K' (q.map (pickO l)) a) : PlanK P l S Q K ((q, r) :: rest) a w :=
  h _ fun _ h => h
/-- Run the next one. -/
theorem plan_run {i : Nat} (h : ∀ K' : Act → World → Prop, (∀ a' w', S w' → RunK P l S Q K rest r a' w' → K' a' w') → wpList P l.toArray (Exit.then K' (OnlyN Q)) [pickO l i] a w) : RunK P l S Q K rest (i :: r) a w :=
  h (Nxt S (RunK P l S Q K rest r)) fun _ _ h1 h2 => ⟨h1, h2⟩
theorem plan_next (h : PlanK P l S Q K rest a w) : RunK P l S Q K rest [] a w := h
theorem plan_end (h : K a w) : PlanK P l S Q K [] a w := h
theorem planK_plan : ∀ (plan : List (List Oper × List Oper)) (a : Act) (w : World) {ops : Array Oper}, wpPlanK P ops S Q (Q .normal) plan a w → wpPlan P ops S Q plan a w := by
  intro plan
  induction plan with
  | nil => intro a w ops h; exact h
  | cons p rest ih =>
    obtain ⟨q, r⟩ := p
    intro a w ops h
    have e : ∀ (r : List Oper) (a : Act) (w : World), wpRuns P ops S Q (wpPlanK P ops S Q (Q .normal) rest) r a w → wpRuns P ops S Q (wpPlan P ops S Q rest) r a w := by
      have he : wpPlanK P ops S Q (Q .normal) rest = wpPlan P ops S Q rest := by
        clear h ih
        induction rest with
        | nil => rfl
        | cons p rest ih =>
          obtain ⟨q, r⟩ := p
          funext a w
          show wpQuiet P ops S (fun a' => wpRuns P ops S Q (wpPlanK P ops S Q (Q .normal) rest) r a' w) q a = wpQuiet P ops S (fun a' => wpRuns P ops S Q (wpPlan P ops S Q rest) r a' w) q a
          rw [ih]
      rw [he]
      exact fun _ _ _ h => h
    exact quiet_mono _ _ _ _ (fun a' ha => e r a' w ha) h
end

/-- A region by a plan: S holds behind every operation. -/
theorem region_plan {P : Program} {id : Nat} {Q : Exit → Act → World → Prop} {a : Act} {w : World} {l : List Oper} (S : World → Prop) (plan : List (List Nat × List Nat)) (hm : P.follows .mixedOrders = true)
    (hB : (Region.noSelect l.toArray && decide (planLen plan = l.length) && planB .any l.toArray plan (Array.replicate l.length false)) = true) (hS : S w.drew)
    (h : PlanK P l S Q (Q .normal) plan a w.drew) : (Code.region id l.toArray true).wp P Q a w :=
  wp_region_plan S plan hm hB hS (planK_plan _ _ _ h)
/-- .. in the worlds that continue X. -/
theorem region_planx {P : Program} {id : Nat} {Q : Exit → Act → World → Prop} {a : Act} {w : World} {l : List Oper} (X : World) (plan : List (List Nat × List Nat)) (hX : Below X.heap.size X w) (hm : P.follows .mixedOrders = true)
    (hB : (Region.noSelect l.toArray && decide (planLen plan = l.length) && planB .any l.toArray plan (Array.replicate l.length false)) = true)
    (h : ∀ u, PlanK P l (fun w' => ∃ u, w' = ext X u) Q (Q .normal) plan a (ext X u)) : (Code.region id l.toArray true).wp P Q a w := by
  obtain ⟨u, hu⟩ := ext_of hX.drew
  refine region_plan (S := fun w' => ∃ u, w' = ext X u) plan hm hB ⟨u, hu.symm⟩ ?_
  rw [← hu]
  exact h u
/-- A region by a plan, whose last operation, number s, may do what it likes. -/
theorem region_planl {P : Program} {id : Nat} {Q : Exit → Act → World → Prop} {a : Act} {w : World} {l : List Oper} (S : World → Prop) (plan : List (List Nat × List Nat)) (s : Nat) (hm : P.follows .mixedOrders = true)
    (hB : (Region.noSelect l.toArray && decide (planLen plan + 1 = l.length) && decide (s < l.length) && Region.sinkB .any l.toArray s && Region.chainB .any l.toArray s && planL .any l.toArray s plan (Array.replicate l.length false)) = true) (hS : S w.drew)
    (h : PlanK P l S Q (fun a w => wpList P l.toArray (Exit.then (fun a w => Q .normal a w) (OnlyN Q)) [pickO l s] a w) plan a w.drew) : (Code.region id l.toArray true).wp P Q a w :=
  wp_region_planl S plan s hm hB hS h
theorem mem_ext {X u : World} : (fun w' => ∃ u, w' = ext X u) (ext X u) := ⟨u, rfl⟩
theorem mem_ext_alloc {X u : World} {o : Obj} : (fun w' => ∃ u, w' = ext X u) ((ext X u).alloc o) := by
  obtain ⟨v, hv⟩ := ext_of (((below_ext X u).alloc (size_ext X u) o))
  exact ⟨v, hv.symm⟩
theorem mem_extB {B : Nat} {X w' : World} (hB : B ≤ X.heap.size) (h : Below B X w') : (fun w' => ∃ u, w' = extB B X u) w' := extB_of hB h
end Go.Proofs.YtojkpoikamcgkaaDoor
