/- A drawn region in a round of a range over a function, by a plan. No program is named here. -/
import Derived.Test.YtojkpoikamcgkaaDoorPlanI
import Derived.OrdersIn
import Derived.RangeFuncNested
import Derived.RangeFuncBound
import Derived.RangeFuncCalls
import Derived.RangeFuncLeaves
import Derived.Shelf.Abstract
import Derived.Shelf.RegionOpen
import Derived.WalkKit
import Derived.OwnWalkIn
import Derived.TacticsInMore
import Derived.LoopNIn
import Derived.LoopIn
namespace Go.Proofs.YtojkpoikamcgkaaDoor
open Go.RowKit
set_option linter.unusedVariables false
set_option linter.unusedSimpArgs false

section
variable {P : Program} {ops : Array Oper} {md : Region.Mode} {Q : Exit → Act → World → Prop} {r n : Nat}
theorem rows_round {row : String} {args : Array Value} {w : World} {R : Value → World → Prop} (h : Rows P row args w R) : RowsIn (Fence.wide.inRound r) n P row args w R := by
  intro c cs _
  obtain ⟨v, w', hR, hs⟩ := h c cs
  exact ⟨v, w', hR, stepsIn_wide.2 hs⟩
theorem oper_round {o : Oper} (hnd : ∀ c, o.op ≠ .defer c) (hQ : ¬ LetsOut Q) {K : Act → World → Prop} {a : Act} {w : World} (h : o.wp P a w K Q) : o.wpIn (Fence.wide.inRound r) n P a w K Q := by
  refine ⟨fun _ _ => trivial, ?_⟩
  rw [Oper.semAt_eq _ _ _ hnd]
  unfold Oper.wp at h
  generalize (execOp a.eval o).run P w = res at *
  cases res with
  | halt x w' => cases x <;> exact h
  | ok nx w' =>
    cases nx <;> first
      | exact h
      | exact ⟨fun hh => (by cases hh), CallsIn.inRound r (callsIn_wide.2 h)⟩
      | exact ⟨fun hh => (by cases hh), rows_round h⟩
      | exact False.elim h
theorem wpOp_round (hnd : ∀ o ∈ ops.toList, ∀ c, o.op ≠ .defer c) (hQ : ¬ LetsOut Q) {i : Nat} {K : Act → World → Prop} {a : Act} {w : World} (h : wpOp P ops Q i K a w) : wpOpIn (Fence.wide.inRound r) n P ops Q i K a w := by
  unfold wpOp at h
  unfold wpOpIn
  cases ho : ops[i]? with
  | none => rw [ho] at h; exact h
  | some o =>
    rw [ho] at h
    simp only at h ⊢
    have hm : o ∈ ops.toList := by
      rw [Array.getElem?_eq_some_iff] at ho
      obtain ⟨hi, rfl⟩ := ho
      exact Array.getElem_mem_toList hi
    split
    · rename_i hw
      rw [if_pos hw] at h
      rcases h with h | h
      · exact oper_round (hnd o hm) hQ h
      · exact absurd h.2 hQ
    · rename_i hw
      rw [if_neg hw] at h
      exact ⟨fun _ _ => trivial, h⟩
theorem wpAny_round (hnd : ∀ o ∈ ops.toList, ∀ c, o.op ≠ .defer c) (hQ : ¬ LetsOut Q) : ∀ (fuel : Nat) (listed : Array Bool) (a : Act) (w : World), wpAny P md ops Q fuel listed a w → wpAnyIn (Fence.wide.inRound r) n P md ops Q fuel listed a w
  | 0, _, _, _, h => h
  | fuel + 1, listed, a, w, h => ⟨h.1, fun i hi => wpOpIn_mono (fun a' w' h' => wpAny_round hnd hQ fuel _ a' w' h') (wpOp_round hnd hQ (h.2 i hi))⟩
end
theorem region_plan_round {P : Program} {id r n : Nat} {Q : Exit → Act → World → Prop} {a : Act} {w : World} {l : List Oper} (S : World → Prop) (plan : List (List Nat × List Nat)) (hm : P.follows .mixedOrders = true)
    (hnd : l.all (fun o => match o.op with | .defer _ => false | _ => true) = true)
    (hB : (Region.noSelect l.toArray && decide (planLen plan = l.length) && planB .any l.toArray plan (Array.replicate l.length false)) = true) (hS : S w.drew)
    (h : PlanK P l S Q (Q .normal) plan a w.drew) : (Code.region id l.toArray true).wpIn (Fence.wide.inRound r) n P Q a w := by
  simp only [Bool.and_eq_true, decide_eq_true_eq] at hB
  obtain ⟨⟨h1, h2⟩, h3⟩ := hB
  refine wpIn_mono (Q := OnlyN Q) ?_ (fun e a w h => ?_)
  · refine wpIn_region_any hm (wpAny_round (fun o ho c hc => ?_) (fun ⟨a', w', h⟩ => h) _ _ _ _ (wpAny_of_held (S := S) _ _ _ _ ?_))
    · rw [List.all_eq_true] at hnd
      have := hnd o (by simpa using ho)
      rw [hc] at this
      cases this
    · have := plan_all (P := P) (md := .any) (S := S) (Q := Q) h1 plan (Array.replicate l.length false) a w.drew hS h3 (by simpa using planK_plan _ _ _ h)
      rw [h2] at this
      simpa using this
  · cases e with
    | normal => exact h
    | _ => exact h.elim
theorem region_planx_round {P : Program} {id r n : Nat} {Q : Exit → Act → World → Prop} {a : Act} {w : World} {l : List Oper} (X : World) (plan : List (List Nat × List Nat)) (hX : Below X.heap.size X w) (hm : P.follows .mixedOrders = true)
    (hnd : l.all (fun o => match o.op with | .defer _ => false | _ => true) = true)
    (hB : (Region.noSelect l.toArray && decide (planLen plan = l.length) && planB .any l.toArray plan (Array.replicate l.length false)) = true)
    (h : ∀ u, PlanK P l (fun w' => ∃ u, w' = ext X u) Q (Q .normal) plan a (ext X u)) : (Code.region id l.toArray true).wpIn (Fence.wide.inRound r) n P Q a w := by
  obtain ⟨u, hu⟩ := ext_of hX.drew
  refine region_plan_round (S := fun w' => ∃ u, w' = ext X u) plan hm hnd hB ⟨u, hu.symm⟩ ?_
  rw [← hu]
  exact h u
/-- .. whose last operation, number s, may store. -/
theorem region_planl_round {P : Program} {id r n : Nat} {Q : Exit → Act → World → Prop} {a : Act} {w : World} {l : List Oper} (S : World → Prop) (plan : List (List Nat × List Nat)) (s : Nat) (hm : P.follows .mixedOrders = true)
    (hnd : l.all (fun o => match o.op with | .defer _ => false | _ => true) = true)
    (hB : (Region.noSelect l.toArray && decide (planLen plan + 1 = l.length) && decide (s < l.length) && Region.sinkB .any l.toArray s && Region.chainB .any l.toArray s && planL .any l.toArray s plan (Array.replicate l.length false)) = true) (hS : S w.drew)
    (h : PlanK P l S Q (fun a w => wpList P l.toArray (Exit.then (fun a w => Q .normal a w) (OnlyN Q)) [pickO l s] a w) plan a w.drew) : (Code.region id l.toArray true).wpIn (Fence.wide.inRound r) n P Q a w := by
  simp only [Bool.and_eq_true, decide_eq_true_eq] at hB
  obtain ⟨⟨⟨⟨⟨h1, h2⟩, h3⟩, h4⟩, h5⟩, h6⟩ := hB
  refine wpIn_mono (Q := OnlyN Q) ?_ (fun e a w h => ?_)
  · refine wpIn_region_any hm (wpAny_round (fun o ho c hc => ?_) (fun ⟨a', w', h⟩ => h) _ _ _ _ (wpAny_of_S (S := S) (s := s) _ _ _ _ ?_))
    · rw [List.all_eq_true] at hnd
      have := hnd o (by simpa using ho)
      rw [hc] at this
      cases this
    · have inv0 : HeadInv .any l.toArray s (Array.replicate l.length false) :=
        ⟨by simp, fun j oj _ hl => (by rw [getD_replicate_false] at hl; cases hl), fun t _ ht => getD_in (by simpa using ht) (getD_replicate_false _ _)⟩
      have h' : wpPlanK P l.toArray S Q (fun a w => wpList P l.toArray (Exit.then (fun a w => Q .normal a w) (OnlyN Q)) [pickO l s] a w) (plan.map fun p => (p.1.map (pickO l), p.2.map (pickO l))) a w.drew := h
      have := planS_all (P := P) (md := .any) (S := S) (Q := Q) h1 h4 h5 (by simpa using h3) plan (Array.replicate l.length false) a w.drew hS inv0 h6 (by simpa using h')
      rw [h2] at this
      simpa using this
  · cases e with
    | normal => exact h
    | _ => exact h.elim
end Go.Proofs.YtojkpoikamcgkaaDoor
