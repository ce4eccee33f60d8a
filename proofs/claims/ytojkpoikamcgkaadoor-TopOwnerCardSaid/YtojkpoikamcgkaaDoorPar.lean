/- A region that draws its order: a plan, then three operations of which one is free of the two others (i before j; k anywhere), then a second plan, then a last operation that stores. No program is named here. -/
import Derived.Test.YtojkpoikamcgkaaDoorPlanI
namespace Go.Proofs.YtojkpoikamcgkaaDoor
open Go.RowKit
set_option linter.unusedVariables false
set_option linter.unusedSimpArgs false

section
variable {P : Program} {ops : Array Oper} {md : Region.Mode} {S : World → Prop} {Q : Exit → Act → World → Prop} {s : Nat} {K : Act → World → Prop} {fuel : Nat}
def planU (md : Region.Mode) (ops : Array Oper) (s : Nat) : List (List Nat × List Nat) → Array Bool → Bool
  | [], _ => true
  | (q, r) :: rest, listed => takesL md ops s q listed && runsL md ops s r (setAll listed q) && planU md ops s rest (setAll (setAll listed q) r)
def afterU : List (List Nat × List Nat) → Array Bool → Array Bool
  | [], listed => listed
  | (q, r) :: rest, listed => afterU rest (setAll (setAll listed q) r)
theorem planU_inv : ∀ (plan : List (List Nat × List Nat)) (listed : Array Bool), planU md ops s plan listed = true → HeadInv md ops s listed → HeadInv md ops s (afterU plan listed)
  | [], _, _, inv => inv
  | (q, r) :: rest, listed, hB, inv => by
    simp only [planU, Bool.and_eq_true] at hB
    obtain ⟨⟨h1, h2⟩, h3⟩ := hB
    exact planU_inv rest _ h3 (runs_inv r _ h2 (setAll_inv q _ h1 inv))
theorem planS_upto (hsel : Region.noSelect ops = true) (hs : Region.sinkB md ops s = true) (hc : Region.chainB md ops s = true) (hn : s < ops.size) : ∀ (plan : List (List Nat × List Nat)) (listed : Array Bool) (a : Act) (w : World), S w → HeadInv md ops s listed → planU md ops s plan listed = true →
    (∀ a' w', S w' → K a' w' → wpAnyS P md ops (OnlyN Q) S s fuel (afterU plan listed) a' w') →
    wpPlanK P ops S Q K (plan.map fun p => (p.1.map (pickO ops.toList), p.2.map (pickO ops.toList))) a w → wpAnyS P md ops (OnlyN Q) S s (planLen plan + fuel) listed a w
  | [], listed, a, w, hS, inv, hB, hK, h => by
    rw [show planLen ([] : List (List Nat × List Nat)) + fuel = fuel from Nat.zero_add _]
    exact hK a w hS h
  | (q, r) :: rest, listed, a, w, hS, inv, hB, hK, h => by
    simp only [planU, Bool.and_eq_true] at hB
    obtain ⟨⟨h1, h2⟩, h3⟩ := hB
    have e : planLen ((q, r) :: rest) + fuel = q.length + (r.length + (planLen rest + fuel)) := by show q.length + (r.length + planLen rest) + fuel = _; omega
    rw [e]
    refine planS_takes hsel hs hc hn hS q listed a inv h1 ?_
    exact quiet_mono _ _ _ _ (fun a' ha => planS_runs r _ a' w hS h2 hn (fun a2 w2 hS2 hK2 => planS_upto hsel hs hc hn rest _ a2 w2 hS2 (runs_inv r _ h2 (setAll_inv q _ h1 inv)) h3 hK hK2) ha) h
def parB (md : Region.Mode) (ops : Array Oper) (s i j k : Nat) (L : Array Bool) : Bool :=
  decide (i < s) && decide (j < s) && decide (k < s) && decide (Region.ready md ops L = [i, k]) && decide (Region.ready md ops (L.setIfInBounds i true) = [j, k]) && decide (Region.ready md ops (L.setIfInBounds k true) = [i]) &&
    decide (Region.ready md ops ((L.setIfInBounds i true).setIfInBounds j true) = [k]) && decide (Region.ready md ops ((L.setIfInBounds i true).setIfInBounds k true) = [j]) && decide (Region.ready md ops ((L.setIfInBounds k true).setIfInBounds i true) = [j]) &&
    decide (((L.setIfInBounds i true).setIfInBounds k true).setIfInBounds j true = ((L.setIfInBounds i true).setIfInBounds j true).setIfInBounds k true) && decide (((L.setIfInBounds k true).setIfInBounds i true).setIfInBounds j true = ((L.setIfInBounds i true).setIfInBounds j true).setIfInBounds k true)
def runO (P : Program) (ops : Array Oper) (S : World → Prop) (Q : Exit → Act → World → Prop) (K : Act → World → Prop) (i : Nat) (a : Act) (w : World) : Prop := wpList P ops (Exit.then (Nxt S K) (OnlyN Q)) [pickO ops.toList i] a w
def wpPar (P : Program) (ops : Array Oper) (S : World → Prop) (Q : Exit → Act → World → Prop) (K : Act → World → Prop) (i j k : Nat) (a : Act) (w : World) : Prop :=
  runO P ops S Q (fun a w => runO P ops S Q (runO P ops S Q K k) j a w ∧ runO P ops S Q (runO P ops S Q K j) k a w) i a w ∧ runO P ops S Q (runO P ops S Q (runO P ops S Q K j) i) k a w
theorem any_one {L : Array Bool} {i : Nat} {a : Act} {w : World} (hn : i < ops.size) (hr : Region.ready md ops L = [i]) (hK : ∀ a' w', S w' → K a' w' → wpAnyS P md ops (OnlyN Q) S s fuel (L.setIfInBounds i true) a' w') (h : runO P ops S Q K i a w) : wpAnyS P md ops (OnlyN Q) S s (fuel + 1) L a w :=
  ⟨fun h0 => (by rw [hr] at h0; cases h0), fun t ht => by
    rw [hr] at ht
    obtain rfl : t = i := by simpa using ht
    exact wpOp_mono (fun a' w' h' => ⟨fun _ => h'.1, hK a' w' h'.1 h'.2⟩) (run_one (pick_get hn) h)⟩
theorem par_sound {i j k : Nat} {L : Array Bool} {a : Act} {w : World} (hn : s < ops.size) (hB : parB md ops s i j k L = true) (hK : ∀ a' w', S w' → K a' w' → wpAnyS P md ops (OnlyN Q) S s fuel (((L.setIfInBounds i true).setIfInBounds j true).setIfInBounds k true) a' w')
    (h : wpPar P ops S Q K i j k a w) : wpAnyS P md ops (OnlyN Q) S s (fuel + 3) L a w := by
  unfold parB at hB
  simp only [Bool.and_eq_true, decide_eq_true_eq] at hB
  obtain ⟨⟨⟨⟨⟨⟨⟨⟨⟨⟨h1, h2⟩, h3⟩, r0⟩, r1⟩, r2⟩, r3⟩, r4⟩, r5⟩, e1⟩, e2⟩ := hB
  refine ⟨fun h0 => (by rw [r0] at h0; cases h0), fun t ht => ?_⟩
  rw [r0] at ht
  simp only [List.mem_cons, List.not_mem_nil, or_false] at ht
  rcases ht with rfl | rfl
  · refine wpOp_mono (fun a' w' h' => ⟨fun _ => h'.1, ?_⟩) (run_one (pick_get (by omega)) h.1)
    refine ⟨fun h0 => (by rw [r1] at h0; cases h0), fun t ht => ?_⟩
    rw [r1] at ht
    simp only [List.mem_cons, List.not_mem_nil, or_false] at ht
    rcases ht with rfl | rfl
    · exact wpOp_mono (fun a' w' h' => ⟨fun _ => h'.1, any_one (by omega) r3 hK h'.2⟩) (run_one (pick_get (by omega)) h'.2.1)
    · exact wpOp_mono (fun a' w' h' => ⟨fun _ => h'.1, any_one (by omega) r4 (by rw [e1]; exact hK) h'.2⟩) (run_one (pick_get (by omega)) h'.2.2)
  · refine wpOp_mono (fun a' w' h' => ⟨fun _ => h'.1, ?_⟩) (run_one (pick_get (by omega)) h.2)
    exact any_one (by omega) r2 (fun a2 w2 _ hh => any_one (by omega) r5 (by rw [e2]; exact hK) hh) h'.2
end
/-- A region by two plans, with three operations between them, of which one is free; the last one stores. -/
theorem region_par {P : Program} {id : Nat} {Q : Exit → Act → World → Prop} {a : Act} {w : World} {l : List Oper} (S : World → Prop) (plan : List (List Nat × List Nat)) (i j k : Nat) (plan2 : List (List Nat × List Nat)) (s : Nat) (hm : P.follows .mixedOrders = true)
    (hB : (Region.noSelect l.toArray && decide (planLen plan + (planLen plan2 + 1 + 3) = l.length) && decide (s < l.length) && Region.sinkB .any l.toArray s && Region.chainB .any l.toArray s && planU .any l.toArray s plan (Array.replicate l.length false) && parB .any l.toArray s i j k (afterU plan (Array.replicate l.length false)) &&
      planL .any l.toArray s plan2 ((((afterU plan (Array.replicate l.length false)).setIfInBounds i true).setIfInBounds j true).setIfInBounds k true)) = true) (hS : S w.drew)
    (h : PlanK P l S Q (fun a w => wpPar P l.toArray S Q (fun a w => PlanK P l S Q (fun a w => wpList P l.toArray (Exit.then (fun a w => Q .normal a w) (OnlyN Q)) [pickO l s] a w) plan2 a w) i j k a w) plan a w.drew) : (Code.region id l.toArray true).wp P Q a w := by
  simp only [Bool.and_eq_true, decide_eq_true_eq] at hB
  obtain ⟨⟨⟨⟨⟨⟨⟨h1, h2⟩, h3⟩, h4⟩, h5⟩, h6⟩, h7⟩, h8⟩ := hB
  refine Code.wp_mono (Q := OnlyN Q) (fun e a w h => ?_) ?_
  · cases e with
    | normal => exact h
    | _ => exact h.elim
  · refine wp_region_any hm (wpAny_of_S (S := S) (s := s) _ _ _ _ ?_)
    have inv0 : HeadInv .any l.toArray s (Array.replicate l.length false) :=
      ⟨by simp, fun j oj _ hl => (by rw [getD_replicate_false] at hl; cases hl), fun t _ ht => getD_in (by simpa using ht) (getD_replicate_false _ _)⟩
    have hp := h7
    unfold parB at hp
    simp only [Bool.and_eq_true, decide_eq_true_eq] at hp
    obtain ⟨⟨⟨⟨⟨⟨⟨⟨⟨⟨p1, p2⟩, p3⟩, r0⟩, r1⟩, r2⟩, r3⟩, r4⟩, r5⟩, e1⟩, e2⟩ := hp
    have inv1 := planU_inv plan _ h6 inv0
    have inv2 := inv1.set (i := i) (by rw [r0]; simp) p1
    have inv3 := inv2.set (i := j) (by rw [r1]; simp) p2
    have inv4 := inv3.set (i := k) (by rw [r3]; simp) p3
    have := planS_upto (P := P) (md := .any) (S := S) (Q := Q) (K := fun a w => wpPar P l.toArray S Q (fun a w => PlanK P l S Q (fun a w => wpList P l.toArray (Exit.then (fun a w => Q .normal a w) (OnlyN Q)) [pickO l s] a w) plan2 a w) i j k a w) (fuel := planLen plan2 + 1 + 3) h1 h4 h5 (by simpa using h3) plan (Array.replicate l.length false) a w.drew hS inv0 h6 (fun a' w' hS' hK => by
      refine par_sound (by simpa using h3) h7 (fun a2 w2 hS2 hK2 => ?_) hK
      exact planS_all (P := P) (md := .any) (S := S) (Q := Q) h1 h4 h5 (by simpa using h3) plan2 _ a2 w2 hS2 inv4 h8 (by simpa [PlanK] using hK2)) (by simpa [PlanK] using h)
    rw [h2] at this
    simpa using this
section
variable {P : Program} {ops : Array Oper} {md : Region.Mode} {S : World → Prop} {Q : Exit → Act → World → Prop} {s : Nat} {K : Act → World → Prop} {fuel : Nat}
def pairB (md : Region.Mode) (ops : Array Oper) (s i k : Nat) (L : Array Bool) : Bool :=
  decide (i < s) && decide (k < s) && decide (Region.ready md ops L = [i, k]) && decide (Region.ready md ops (L.setIfInBounds i true) = [k]) && decide (Region.ready md ops (L.setIfInBounds k true) = [i]) && decide ((L.setIfInBounds k true).setIfInBounds i true = (L.setIfInBounds i true).setIfInBounds k true)
def wpPair (P : Program) (ops : Array Oper) (S : World → Prop) (Q : Exit → Act → World → Prop) (K : Act → World → Prop) (i k : Nat) (a : Act) (w : World) : Prop :=
  runO P ops S Q (runO P ops S Q K k) i a w ∧ runO P ops S Q (runO P ops S Q K i) k a w
theorem pair_sound {i k : Nat} {L : Array Bool} {a : Act} {w : World} (hn : s < ops.size) (hB : pairB md ops s i k L = true) (hK : ∀ a' w', S w' → K a' w' → wpAnyS P md ops (OnlyN Q) S s fuel ((L.setIfInBounds i true).setIfInBounds k true) a' w')
    (h : wpPair P ops S Q K i k a w) : wpAnyS P md ops (OnlyN Q) S s (fuel + 2) L a w := by
  unfold pairB at hB
  simp only [Bool.and_eq_true, decide_eq_true_eq] at hB
  obtain ⟨⟨⟨⟨⟨h1, h3⟩, r0⟩, r1⟩, r2⟩, e1⟩ := hB
  refine ⟨fun h0 => (by rw [r0] at h0; cases h0), fun t ht => ?_⟩
  rw [r0] at ht
  simp only [List.mem_cons, List.not_mem_nil, or_false] at ht
  rcases ht with rfl | rfl
  · refine wpOp_mono (fun a' w' h' => ⟨fun _ => h'.1, ?_⟩) (run_one (pick_get (by omega)) h.1)
    exact any_one (by omega) r1 hK h'.2
  · refine wpOp_mono (fun a' w' h' => ⟨fun _ => h'.1, ?_⟩) (run_one (pick_get (by omega)) h.2)
    exact any_one (by omega) r2 (by rw [e1]; exact hK) h'.2
end
/-- A region by a plan, then two operations that are free of one another, then a second plan; the last one stores. -/
theorem region_pair {P : Program} {id : Nat} {Q : Exit → Act → World → Prop} {a : Act} {w : World} {l : List Oper} (S : World → Prop) (plan : List (List Nat × List Nat)) (i k : Nat) (plan2 : List (List Nat × List Nat)) (s : Nat) (hm : P.follows .mixedOrders = true)
    (hB : (Region.noSelect l.toArray && decide (planLen plan + (planLen plan2 + 1 + 2) = l.length) && decide (s < l.length) && Region.sinkB .any l.toArray s && Region.chainB .any l.toArray s && planU .any l.toArray s plan (Array.replicate l.length false) && pairB .any l.toArray s i k (afterU plan (Array.replicate l.length false)) &&
      planL .any l.toArray s plan2 (((afterU plan (Array.replicate l.length false)).setIfInBounds i true).setIfInBounds k true)) = true) (hS : S w.drew)
    (h : PlanK P l S Q (fun a w => wpPair P l.toArray S Q (fun a w => PlanK P l S Q (fun a w => wpList P l.toArray (Exit.then (fun a w => Q .normal a w) (OnlyN Q)) [pickO l s] a w) plan2 a w) i k a w) plan a w.drew) : (Code.region id l.toArray true).wp P Q a w := by
  simp only [Bool.and_eq_true, decide_eq_true_eq] at hB
  obtain ⟨⟨⟨⟨⟨⟨⟨h1, h2⟩, h3⟩, h4⟩, h5⟩, h6⟩, h7⟩, h8⟩ := hB
  refine Code.wp_mono (Q := OnlyN Q) (fun e a w h => ?_) ?_
  · cases e with
    | normal => exact h
    | _ => exact h.elim
  · refine wp_region_any hm (wpAny_of_S (S := S) (s := s) _ _ _ _ ?_)
    have inv0 : HeadInv .any l.toArray s (Array.replicate l.length false) :=
      ⟨by simp, fun j oj _ hl => (by rw [getD_replicate_false] at hl; cases hl), fun t _ ht => getD_in (by simpa using ht) (getD_replicate_false _ _)⟩
    have hp := h7
    unfold pairB at hp
    simp only [Bool.and_eq_true, decide_eq_true_eq] at hp
    obtain ⟨⟨⟨⟨⟨p1, p3⟩, r0⟩, r1⟩, r2⟩, e1⟩ := hp
    have inv1 := planU_inv plan _ h6 inv0
    have inv2 := inv1.set (i := i) (by rw [r0]; simp) p1
    have inv4 := inv2.set (i := k) (by rw [r1]; simp) p3
    have := planS_upto (P := P) (md := .any) (S := S) (Q := Q) (K := fun a w => wpPair P l.toArray S Q (fun a w => PlanK P l S Q (fun a w => wpList P l.toArray (Exit.then (fun a w => Q .normal a w) (OnlyN Q)) [pickO l s] a w) plan2 a w) i k a w) (fuel := planLen plan2 + 1 + 2) h1 h4 h5 (by simpa using h3) plan (Array.replicate l.length false) a w.drew hS inv0 h6 (fun a' w' hS' hK => by
      refine pair_sound (by simpa using h3) h7 (fun a2 w2 hS2 hK2 => ?_) hK
      exact planS_all (P := P) (md := .any) (S := S) (Q := Q) h1 h4 h5 (by simpa using h3) plan2 _ a2 w2 hS2 inv4 h8 (by simpa [PlanK] using hK2)) (by simpa [PlanK] using h)
    rw [h2] at this
    simpa using this
/-- The three operations in their three orders. -/
theorem par_run {P : Program} {l : List Oper} {S : World → Prop} {Q : Exit → Act → World → Prop} {K : Act → World → Prop} {i j k : Nat} {a : Act} {w : World}
    (h : ∀ (K1 K2 K3 K4 : Act → World → Prop), (∀ a w, S w → runO P l.toArray S Q (runO P l.toArray S Q K k) j a w ∧ runO P l.toArray S Q (runO P l.toArray S Q K j) k a w → K1 a w) → (∀ a w, S w → runO P l.toArray S Q (runO P l.toArray S Q K j) i a w → K2 a w) →
      wpList P l.toArray (Exit.then K1 (OnlyN Q)) [pickO l i] a w ∧ wpList P l.toArray (Exit.then K2 (OnlyN Q)) [pickO l k] a w) : wpPar P l.toArray S Q K i j k a w :=
  h (Nxt S _) (Nxt S _) (fun _ _ => True) (fun _ _ => True) (fun _ _ h1 h2 => ⟨h1, h2⟩) (fun _ _ h1 h2 => ⟨h1, h2⟩)
theorem runO_go {P : Program} {l : List Oper} {S : World → Prop} {Q : Exit → Act → World → Prop} {K : Act → World → Prop} {i : Nat} {a : Act} {w : World}
    (h : ∀ K1 : Act → World → Prop, (∀ a w, S w → K a w → K1 a w) → wpList P l.toArray (Exit.then K1 (OnlyN Q)) [pickO l i] a w) : runO P l.toArray S Q K i a w := h (Nxt S K) (fun _ _ h1 h2 => ⟨h1, h2⟩)
end Go.Proofs.YtojkpoikamcgkaaDoor
