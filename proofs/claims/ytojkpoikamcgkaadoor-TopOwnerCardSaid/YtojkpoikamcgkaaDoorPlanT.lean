/- A region that draws its order, whose last operations store or stand behind the store: by a plan up to a last move, and a second plan behind it of which the world is not asked. No program is named here. -/
import Derived.Test.YtojkpoikamcgkaaDoorPlanI
namespace Go.Proofs.YtojkpoikamcgkaaDoor
open Go.RowKit
set_option linter.unusedVariables false
set_option linter.unusedSimpArgs false

section
variable {P : Program} {ops : Array Oper} {md : Region.Mode} {S : World → Prop} {Q : Exit → Act → World → Prop} {s : Nat}
/-- Whatever stands behind number n waits for one of the operations from n on. -/
def chainT (md : Region.Mode) (ops : Array Oper) (n : Nat) : Bool :=
  (List.range ops.size).all fun t => decide (t ≤ n) || (List.range t).any fun u => decide (n ≤ u) && Region.waitsFor md ops t u
theorem tail_waitsT {n : Nat} {listed : Array Bool} (hs : Region.sinkB md ops n = true) (hc : chainT md ops n = true) (hn : n < ops.size) (inv : HeadInv md ops n listed) :
    ∀ (d i : Nat), n - i = d → i < n → listed.getD i true = false → ∀ t, n ≤ t → t ∉ Region.ready md ops listed := by
  intro d
  induction d using Nat.strongRecOn with
  | _ d ih =>
    intro i hd hi hun t ht hr
    obtain ⟨_, ot, hot, hall⟩ := mem_ready.1 hr
    have htlt : t < ops.size := (Array.getElem?_eq_some_iff.1 hot).1
    by_cases htn : t = n
    · subst htn
      have h1 := List.all_eq_true.1 hs i (List.mem_range.2 hi)
      obtain ⟨j, hj, hj2⟩ := List.any_eq_true.1 h1
      simp only [Bool.and_eq_true, decide_eq_true_eq] at hj2
      obtain ⟨oj, hoj, e, he, hb, hon⟩ := Region.waitsFor_spec hj2.2
      have hjle : j ≤ t := by have := List.mem_range.1 hj; omega
      by_cases hjt : j = t
      · subst hjt
        have : oj = ot := Option.some.inj (hoj.symm.trans hot)
        subst this
        have h2 := hall e he hb
        rw [hon, getD_both hun] at h2
        cases h2
      · cases hl : listed.getD j false with
        | true =>
          have h2 := inv.closed j oj hoj hl e he hb
          rw [hon, getD_both hun] at h2
          cases h2
        | false =>
          have hjs : j < listed.size := by rw [inv.size]; omega
          exact ih (t - j) (by omega) j rfl (by omega) (getD_in hjs hl) t (Nat.le_refl _) hr
    · have h1 := List.all_eq_true.1 hc t (List.mem_range.2 htlt)
      simp only [Bool.or_eq_true, decide_eq_true_eq] at h1
      rcases h1 with h1 | h1
      · omega
      · obtain ⟨u, hu, hu2⟩ := List.any_eq_true.1 h1
        simp only [Bool.and_eq_true, decide_eq_true_eq] at hu2
        have hut := List.mem_range.1 hu
        obtain ⟨o', ho', e, he, hb, hon⟩ := Region.waitsFor_spec hu2.2
        have : o' = ot := Option.some.inj (ho'.symm.trans hot)
        subst this
        have h2 := hall e he hb
        rw [hon, getD_both (inv.tail u hu2.1 (by omega))] at h2
        cases h2

/-- Whatever order is picked from here on; S holds behind every operation ahead of number s. -/
def wpAnyT (P : Program) (md : Region.Mode) (ops : Array Oper) (Q : Exit → Act → World → Prop) (S : World → Prop) (s : Nat) : Nat → Array Bool → Act → World → Prop
  | 0, listed, a, w => Region.ready md ops listed = [] ∧ Q .normal a w
  | fuel + 1, listed, a, w =>
    (Region.ready md ops listed = [] → Q .normal a w) ∧
    ∀ i ∈ Region.ready md ops listed, wpOp P ops Q i (fun a' w' => (i < s → S w') ∧ wpAnyT P md ops Q S s fuel (listed.setIfInBounds i true) a' w') a w
theorem wpAny_of_T : ∀ (fuel : Nat) (listed : Array Bool) (a : Act) (w : World), wpAnyT P md ops Q S s fuel listed a w → wpAny P md ops Q fuel listed a w
  | 0, _, _, _, h => h
  | fuel + 1, _, _, _, h => ⟨h.1, fun i hi => wpOp_mono (fun a' w' h' => wpAny_of_T fuel _ a' w' h'.2) (h.2 i hi)⟩

theorem wpAnyT_first {i : Nat} {oi : Oper} {v : Value} (hi : ops[i]? = some oi) (hsel : ∀ (j : Nat) (o : Oper) cs b, ops[j]? = some o → o.op ≠ .select cs b)
    (hQ : ∀ c a w, Q (.panic c) (a.put oi.dst v) w → Q (.panic c) a w) (hs : Region.sinkB md ops s = true) (hc : chainT md ops s = true) (hn : s < ops.size) (his : i < s) :
    ∀ (fuel : Nat) (listed : Array Bool) (a : Act) (w : World), HeadInv md ops s listed →
      (∀ j oj, ops[j]? = some oj → j ≠ i → listed.getD j true = false → (∀ e ∈ oj.after, Region.binds md e = true → e.on ≠ i) → oi.apart ops oj = true) →
      i ∈ Region.ready md ops listed → YieldsIf P ops S oi v a → S w →
      wpAnyT P md ops Q S s fuel (listed.setIfInBounds i true) (a.put oi.dst v) w → wpAnyT P md ops Q S s (fuel + 1) listed a w := by
  intro fuel
  induction fuel with
  | zero =>
    intro listed a w inv _ hr hy hS H
    refine ⟨fun h => (by rw [h] at hr; cases hr), fun j hj => ?_⟩
    by_cases hji : j = i
    · subst hji; exact hy.wpOp hi hS ⟨fun _ => hS, H⟩
    · have := ready_mono hj hji
      rw [H.1] at this
      cases this
  | succ fuel ih =>
    intro listed a w inv hfree hr hy hS H
    refine ⟨fun h => (by rw [h] at hr; cases hr), fun j hj => ?_⟩
    by_cases hji : j = i
    · subst hji; exact hy.wpOp hi hS ⟨fun _ => hS, H⟩
    · have hun := (mem_ready.1 hr).1
      have hjs : j < s := by
        rcases Nat.lt_or_ge j s with h | h
        · exact h
        · exact absurd hj (tail_waitsT hs hc hn inv _ i rfl his hun j h)
      have h1 := H.2 j (ready_mono hj hji)
      obtain ⟨hjun, oj, hoj, hall⟩ := mem_ready.1 hj
      have hnot : ∀ e ∈ oj.after, Region.binds md e = true → e.on ≠ i := fun e he hb heq => by
        have h1 := hall e he hb
        rw [heq, getD_both hun] at h1
        cases h1
      have h2 := wpOp_putIf hoj (hfree j oj hoj hji hjun hnot) (fun cs b => hsel i oi cs b hi) (fun cs b => hsel j oj cs b hoj) hQ hy h1
      have hfree' : ∀ k ok, ops[k]? = some ok → k ≠ i → (listed.setIfInBounds j true).getD k true = false →
          (∀ e ∈ ok.after, Region.binds md e = true → e.on ≠ i) → oi.apart ops ok = true := fun k ok hk hki hun hno => by
        refine hfree k ok hk hki ?_ hno
        by_cases hjk : j = k
        · subst hjk; exact hjun
        · rw [getD_set_ne true hjk] at hun; exact hun
      refine wpOp_mono (fun a' w' h3 => ⟨h3.2.1, ih (listed.setIfInBounds j true) a' w' (inv.set hj hjs) hfree' (ready_mono hr (Ne.symm hji)) h3.1 (h3.2.1 hjs) ?_⟩) h2
      rw [Array.setIfInBounds_comm _ _ hji]
      exact h3.2.2

def planTB (md : Region.Mode) (ops : Array Oper) (s : Nat) (plan2 : List (List Nat × List Nat)) : List (List Nat × List Nat) → Array Bool → Bool
  | [], listed => planB md ops plan2 listed && (List.range s).all fun i => listed.getD i false
  | (q, r) :: rest, listed => takesL md ops s q listed && runsL md ops s r (setAll listed q) && planTB md ops s plan2 rest (setAll (setAll listed q) r)

theorem planT_takes (hsel : Region.noSelect ops = true) (hs : Region.sinkB md ops s = true) (hc : chainT md ops s = true) (hn : s < ops.size) {fuel : Nat} {w : World} (hS : S w) : ∀ (q : List Nat) (listed : Array Bool) (a : Act), HeadInv md ops s listed → takesL md ops s q listed = true →
    wpQuiet P ops S (fun a' => wpAnyT P md ops (OnlyN Q) S s fuel (setAll listed q) a' w) (q.map (pickO ops.toList)) a → wpAnyT P md ops (OnlyN Q) S s (q.length + fuel) listed a w
  | [], listed, a, _, _, h => by
    simp only [List.length_nil, Nat.zero_add]
    exact h
  | i :: q, listed, a, inv, hB, h => by
    simp only [takesL, Bool.and_eq_true, decide_eq_true_eq] at hB
    obtain ⟨⟨⟨⟨h1, h2⟩, h3⟩, h4⟩, h5⟩ := hB
    have ho := pick_get (ops := ops) (show i < ops.size by omega)
    have hq : qOp P ops S i (wpQuiet P ops S (fun a' => wpAnyT P md ops (OnlyN Q) S s fuel (setAll (listed.setIfInBounds i true) q) a' w) (q.map (pickO ops.toList))) a := by
      unfold qOp
      simp only [ho]
      exact h
    obtain ⟨v, hy, hK⟩ := yieldsIn_of_qOp ho hq
    have e : (i :: q).length + fuel = (q.length + fuel) + 1 := by simp only [List.length_cons]; omega
    rw [e]
    have hr : i ∈ Region.ready md ops listed := by simpa using h3
    exact wpAnyT_first ho (Region.noSelect_spec hsel) (fun _ _ _ h => h) hs hc hn h1 _ listed a w inv (Region.free_spec ho h4) hr (yieldsIf_of h2 hy) hS (planT_takes hsel hs hc hn hS q _ _ (inv.set hr h1) h5 hK)

theorem planT_runs {fuel : Nat} {K : Act → World → Prop} : ∀ (r : List Nat) (listed : Array Bool) (a : Act) (w : World), S w → runsL md ops s r listed = true → s < ops.size →
    (∀ a' w', S w' → K a' w' → wpAnyT P md ops (OnlyN Q) S s fuel (setAll listed r) a' w') → wpRuns P ops S Q K (r.map (pickO ops.toList)) a w → wpAnyT P md ops (OnlyN Q) S s (r.length + fuel) listed a w
  | [], listed, a, w, hS, _, _, hK, h => by
    simp only [List.length_nil, Nat.zero_add]
    exact hK a w hS h
  | i :: r, listed, a, w, hS, hB, hn, hK, h => by
    simp only [runsL, Bool.and_eq_true, decide_eq_true_eq] at hB
    obtain ⟨⟨h1, h2⟩, h3⟩ := hB
    have ho := pick_get (ops := ops) (show i < ops.size by omega)
    have e : (i :: r).length + fuel = (r.length + fuel) + 1 := by simp only [List.length_cons]; omega
    rw [e]
    refine ⟨fun h0 => (by rw [h2] at h0; cases h0), fun j hj => ?_⟩
    rw [h2] at hj
    obtain rfl : j = i := by simpa using hj
    exact wpOp_mono (fun a' w' h' => ⟨fun _ => h'.1, planT_runs r _ a' w' h'.1 h3 hn hK h'.2⟩) (run_one ho h)

theorem anyT_of_H : ∀ (fuel : Nat) (listed : Array Bool) (a : Act) (w : World), (∀ i, i < s → listed.getD i false = true) → wpAnyH P md ops Q (fun _ => True) fuel listed a w → wpAnyT P md ops Q S s fuel listed a w
  | 0, _, _, _, _, h => h
  | fuel + 1, listed, _, _, hl, h => ⟨h.1, fun i hi => wpOp_mono (fun a' w' h' => ⟨fun hlt => (by
      have h1 := hl i hlt
      rw [getD_both (mem_ready.1 hi).1] at h1
      exact absurd h1 (by decide)), anyT_of_H fuel _ a' w' (fun k hk => getD_set_true (hl k hk)) h'.2⟩) (h.2 i hi)⟩
theorem planT_all (hsel : Region.noSelect ops = true) (hs : Region.sinkB md ops s = true) (hc : chainT md ops s = true) (hn : s < ops.size) (plan2 : List (List Nat × List Nat)) : ∀ (plan : List (List Nat × List Nat)) (listed : Array Bool) (a : Act) (w : World), S w → HeadInv md ops s listed → planTB md ops s plan2 plan listed = true →
    wpPlanK P ops S Q (fun a w => wpPlan P ops (fun _ => True) Q (plan2.map fun p => (p.1.map (pickO ops.toList), p.2.map (pickO ops.toList))) a w) (plan.map fun p => (p.1.map (pickO ops.toList), p.2.map (pickO ops.toList))) a w → wpAnyT P md ops (OnlyN Q) S s (planLen plan + planLen plan2) listed a w
  | [], listed, a, w, hS, inv, hB, h => by
    simp only [planTB, Bool.and_eq_true] at hB
    obtain ⟨h1, h2⟩ := hB
    rw [show planLen ([] : List (List Nat × List Nat)) + planLen plan2 = planLen plan2 from Nat.zero_add _]
    exact anyT_of_H _ _ _ _ (fun i hi => List.all_eq_true.1 h2 i (List.mem_range.2 hi)) (plan_all hsel plan2 listed a w trivial h1 h)
  | (q, r) :: rest, listed, a, w, hS, inv, hB, h => by
    simp only [planTB, Bool.and_eq_true] at hB
    obtain ⟨⟨h1, h2⟩, h3⟩ := hB
    have e : planLen ((q, r) :: rest) + planLen plan2 = q.length + (r.length + (planLen rest + planLen plan2)) := by show q.length + (r.length + planLen rest) + planLen plan2 = _; omega
    rw [e]
    refine planT_takes hsel hs hc hn hS q listed a inv h1 ?_
    exact quiet_mono _ _ _ _ (fun a' ha => planT_runs r _ a' w hS h2 hn (fun a2 w2 hS2 hK => planT_all hsel hs hc hn plan2 rest _ a2 w2 hS2 (runs_inv r _ h2 (setAll_inv q _ h1 inv)) h3 hK) ha) h
end
theorem plan_then {P : Program} {l : List Oper} {Q : Exit → Act → World → Prop} {a : Act} {w : World} {plan2 : List (List Nat × List Nat)} (h : PlanK P l (fun _ => True) Q (Q .normal) plan2 a w) : wpPlan P l.toArray (fun _ => True) Q (plan2.map fun p => (p.1.map (pickO l), p.2.map (pickO l))) a w := planK_plan _ _ _ h
/-- A region by two plans: S holds behind every operation of the first. -/
theorem region_plant {P : Program} {id : Nat} {Q : Exit → Act → World → Prop} {a : Act} {w : World} {l : List Oper} (S : World → Prop) (plan : List (List Nat × List Nat)) (s : Nat) (plan2 : List (List Nat × List Nat)) (hm : P.follows .mixedOrders = true)
    (hB : (Region.noSelect l.toArray && decide (planLen plan + planLen plan2 = l.length) && decide (s < l.length) && Region.sinkB .any l.toArray s && chainT .any l.toArray s && planTB .any l.toArray s plan2 plan (Array.replicate l.length false)) = true) (hS : S w.drew)
    (h : PlanK P l S Q (fun a w => wpPlan P l.toArray (fun _ => True) Q (plan2.map fun p => (p.1.map (pickO l), p.2.map (pickO l))) a w) plan a w.drew) : (Code.region id l.toArray true).wp P Q a w := by
  simp only [Bool.and_eq_true, decide_eq_true_eq] at hB
  obtain ⟨⟨⟨⟨⟨h1, h2⟩, h3⟩, h4⟩, h5⟩, h6⟩ := hB
  refine Code.wp_mono (Q := OnlyN Q) (fun e a w h => ?_) ?_
  · cases e with
    | normal => exact h
    | _ => exact h.elim
  · refine wp_region_any hm (wpAny_of_T (S := S) (s := s) _ _ _ _ ?_)
    have inv0 : HeadInv .any l.toArray s (Array.replicate l.length false) :=
      ⟨by simp, fun j oj _ hl => (by rw [getD_replicate_false] at hl; cases hl), fun t _ ht => getD_in (by simpa using ht) (getD_replicate_false _ _)⟩
    have := planT_all (P := P) (md := .any) (S := S) (Q := Q) h1 h4 h5 (by simpa using h3) plan2 plan (Array.replicate l.length false) a w.drew hS inv0 h6 (by simpa [PlanK] using h)
    rw [h2] at this
    simpa using this
end Go.Proofs.YtojkpoikamcgkaaDoor
