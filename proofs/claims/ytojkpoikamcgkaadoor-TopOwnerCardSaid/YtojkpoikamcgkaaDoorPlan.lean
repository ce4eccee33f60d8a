/- A region that draws its order, walked by a plan: loads and arithmetic are taken first, where they are ready; what makes or writes memory is run where nothing else is ready. No program is named here. -/
import Derived.Test.YtojkpoikamcgkaaDoorExt
import Derived.OrdersHeld
import Derived.StillTail
namespace Go.Proofs.YtojkpoikamcgkaaDoor
open Go.RowKit
set_option linter.unusedVariables false
set_option linter.unusedSimpArgs false

/-- Operations that yield a value, or stop: they enter no function. -/
def givesB : Op → Bool
  | .move _ | .assign _ | .pick .. | .build .. | .load .. | .binOp .. | .unOp .. | .slice .. | .fieldAddr .. | .field .. | .indexAddr .. | .index .. | .extract .. => true
  | .call c => match c.callee with
    | .builtin .len | .builtin .max | .builtin .min => true
    | _ => false
  | _ => false

theorem run_vs {P : Program} {s : Sem Value} {w w' : World} {nx : Next} (h : (do let x ← s; pure (Next.value x) : Sem Next).run P w = .ok nx w') : ∃ u, nx = .value u := by
  rw [Sem.run_bind] at h
  cases hs : s.run P w with
  | ok v w1 =>
    rw [hs] at h
    simp only [Result.andThen_ok, Sem.run_pure, Result.ok.injEq] at h
    exact ⟨v, h.1.symm⟩
  | halt x w1 =>
    rw [hs] at h
    simp [Result.andThen] at h
theorem gives_value {P : Program} {ρ : Operand → Value} {o : Oper} (hg : givesB o.op = true) {w w' : World} {nx : Next} (h : (execOp ρ o).run P w = .ok nx w') : ∃ u, nx = .value u := by
  unfold execOp at h
  cases ho : o.op <;> rw [ho] at hg h <;> simp only [givesB, Bool.false_eq_true] at hg <;> simp only at h
  case move => simp at h; exact ⟨_, h.1.symm⟩
  case assign => simp at h; exact ⟨_, h.1.symm⟩
  case pick c x y =>
    rw [Sem.run_bind] at h
    cases hs : (asBool (ρ c)).run P w with
    | ok v w1 =>
      rw [hs] at h
      simp only [Result.andThen_ok, Sem.run_pure, Result.ok.injEq] at h
      exact ⟨_, h.1.symm⟩
    | halt x w1 => rw [hs] at h; simp [Result.andThen] at h
  case call c =>
    cases hc : c.callee with
    | value f => rw [hc] at hg; simp at hg
    | invoke r n => rw [hc] at hg; simp at hg
    | builtin b =>
      simp only [resolve, hc, Sem.run_bind, Sem.run_pure, Result.andThen_ok, invoke] at h
      cases b <;> rw [hc] at hg <;> simp only [Bool.false_eq_true] at hg <;> (simp only [builtin] at h; exact run_vs h)
  all_goals exact run_vs h

section
variable {P : Program} {ops : Array Oper} {md : Region.Mode} {S : World → Prop}

/-- What is quiet in the class yields in every world of it, if it enters no function. -/
theorem yieldsIf_of {o : Oper} {v : Value} {a : Act} (hg : givesB o.op = true) (h : YieldsIn P ops S o v a) : YieldsIf P ops S o v a := by
  rcases h with ⟨hw, h⟩ | h
  · refine .inl ⟨hw, fun w hS => ?_⟩
    have h1 := h w hS
    unfold Oper.quietAt at h1
    cases hr : (execOp a.eval o).run P w with
    | halt x w' => rw [hr] at h1; exact h1.elim
    | ok nx w' =>
      obtain ⟨u, rfl⟩ := gives_value hg hr
      rw [hr] at h1
      simp only [Oper.quietUpon] at h1
      rw [h1.1, h1.2]
  · exact .inr h

def noOper : Oper := { dst := none, op := .move (.const undef), type := 0, pos := "", after := #[], guard := none }
def pickO (l : List Oper) (i : Nat) : Oper := l.getD i noOper

def setAll (listed : Array Bool) : List Nat → Array Bool
  | [] => listed
  | i :: q => setAll (listed.setIfInBounds i true) q
def takesB (md : Region.Mode) (ops : Array Oper) : List Nat → Array Bool → Bool
  | [], _ => true
  | i :: q, listed => decide (i < ops.size) && givesB (pickO ops.toList i).op && (Region.ready md ops listed).contains i && Region.free md ops listed i && takesB md ops q (listed.setIfInBounds i true)
def runsB (md : Region.Mode) (ops : Array Oper) : List Nat → Array Bool → Bool
  | [], _ => true
  | i :: r, listed => decide (i < ops.size) && decide (Region.ready md ops listed = [i]) && runsB md ops r (listed.setIfInBounds i true)
def planB (md : Region.Mode) (ops : Array Oper) : List (List Nat × List Nat) → Array Bool → Bool
  | [], listed => (Region.ready md ops listed).isEmpty
  | (q, r) :: rest, listed => takesB md ops q listed && runsB md ops r (setAll listed q) && planB md ops rest (setAll (setAll listed q) r)
def planLen : List (List Nat × List Nat) → Nat
  | [] => 0
  | (q, r) :: rest => q.length + (r.length + planLen rest)

/-- The world meets S, and it goes on. -/
def Nxt (S : World → Prop) (K : Act → World → Prop) (a : Act) (w : World) : Prop := S w ∧ K a w
/-- Only a normal end. -/
def OnlyN (Q : Exit → Act → World → Prop) : Exit → Act → World → Prop
  | .normal, a, w => Q .normal a w
  | _, _, _ => False
def wpRuns (P : Program) (ops : Array Oper) (S : World → Prop) (Q : Exit → Act → World → Prop) (K : Act → World → Prop) : List Oper → Act → World → Prop
  | [], a, w => K a w
  | o :: r, a, w => wpList P ops (Exit.then (Nxt S (wpRuns P ops S Q K r)) (OnlyN Q)) [o] a w
def wpPlan (P : Program) (ops : Array Oper) (S : World → Prop) (Q : Exit → Act → World → Prop) : List (List Oper × List Oper) → Act → World → Prop
  | [], a, w => Q .normal a w
  | (q, r) :: rest, a, w => wpQuiet P ops S (fun a' => wpRuns P ops S Q (wpPlan P ops S Q rest) r a' w) q a

theorem wp_then_only {o : Oper} {a : Act} {w : World} {K N : Act → World → Prop} {Q : Exit → Act → World → Prop} (h : o.wp P a w K (Exit.then N (OnlyN Q))) : o.wp P a w K (OnlyN Q) := by
  unfold Oper.wp at *
  generalize (execOp a.eval o).run P w = r at *
  cases r with
  | halt x w' => cases x <;> exact h
  | ok n w' => cases n <;> exact h
theorem run_one {o : Oper} {i : Nat} {a : Act} {w : World} {N : Act → World → Prop} {Q : Exit → Act → World → Prop} (ho : ops[i]? = some o) (h : wpList P ops (Exit.then N (OnlyN Q)) [o] a w) : wpOp P ops (OnlyN Q) i N a w := by
  unfold wpList at h
  unfold wpOp
  simp only [ho]
  split
  · rename_i hw
    rw [if_pos hw] at h
    rcases h with h | ⟨_, a', w', h⟩
    · left
      exact Oper.wp_mono (fun a w h => h) (wp_then_only h)
    · exact h.elim
  · rename_i hw
    rw [if_neg hw] at h
    exact h

theorem pick_get {i : Nat} (h : i < ops.size) : ops[i]? = some (pickO ops.toList i) := by
  unfold pickO
  rw [List.getD_eq_getElem?_getD]
  simp [h]

theorem plan_takes (hs : Region.noSelect ops = true) {Q : Exit → Act → World → Prop} {fuel : Nat} {w : World} (hS : S w) : ∀ (q : List Nat) (listed : Array Bool) (a : Act), takesB md ops q listed = true →
    wpQuiet P ops S (fun a' => wpAnyH P md ops (OnlyN Q) S fuel (setAll listed q) a' w) (q.map (pickO ops.toList)) a → wpAnyH P md ops (OnlyN Q) S (q.length + fuel) listed a w
  | [], listed, a, _, h => by
    simp only [List.length_nil, Nat.zero_add]
    exact h
  | i :: q, listed, a, hB, h => by
    simp only [takesB, Bool.and_eq_true, decide_eq_true_eq] at hB
    obtain ⟨⟨⟨⟨h1, h2⟩, h3⟩, h4⟩, h5⟩ := hB
    have ho := pick_get (ops := ops) h1
    have hq : qOp P ops S i (wpQuiet P ops S (fun a' => wpAnyH P md ops (OnlyN Q) S fuel (setAll (listed.setIfInBounds i true) q) a' w) (q.map (pickO ops.toList))) a := by
      unfold qOp
      simp only [ho]
      exact h
    obtain ⟨v, hy, hK⟩ := yieldsIn_of_qOp ho hq
    have e : (i :: q).length + fuel = (q.length + fuel) + 1 := by simp only [List.length_cons]; omega
    rw [e]
    exact wpAnyH_take ho hs h4 h3 (fun _ _ _ h => h) (yieldsIf_of h2 hy) hS (plan_takes hs hS q _ _ h5 hK)

theorem plan_runs {Q : Exit → Act → World → Prop} {fuel : Nat} {K : Act → World → Prop} : ∀ (r : List Nat) (listed : Array Bool) (a : Act) (w : World), S w → runsB md ops r listed = true →
    (∀ a' w', S w' → K a' w' → wpAnyH P md ops (OnlyN Q) S fuel (setAll listed r) a' w') → wpRuns P ops S Q K (r.map (pickO ops.toList)) a w → wpAnyH P md ops (OnlyN Q) S (r.length + fuel) listed a w
  | [], listed, a, w, hS, _, hK, h => by simpa [setAll] using hK a w hS h
  | i :: r, listed, a, w, hS, hB, hK, h => by
    simp only [runsB, Bool.and_eq_true, decide_eq_true_eq] at hB
    obtain ⟨⟨h1, h2⟩, h3⟩ := hB
    have ho := pick_get (ops := ops) h1
    have e : (i :: r).length + fuel = (r.length + fuel) + 1 := by simp only [List.length_cons]; omega
    rw [e]
    refine wpAnyH_all h2 (by simp) fun j hj => ?_
    obtain rfl : j = i := by simpa using hj
    exact wpOp_mono (fun a' w' h' => ⟨h'.1, plan_runs r _ a' w' h'.1 h3 hK h'.2⟩) (run_one ho h)

theorem plan_all (hs : Region.noSelect ops = true) {Q : Exit → Act → World → Prop} : ∀ (plan : List (List Nat × List Nat)) (listed : Array Bool) (a : Act) (w : World), S w → planB md ops plan listed = true →
    wpPlan P ops S Q (plan.map fun p => (p.1.map (pickO ops.toList), p.2.map (pickO ops.toList))) a w → wpAnyH P md ops (OnlyN Q) S (planLen plan) listed a w
  | [], listed, a, w, hS, hB, h => ⟨by simpa [planB] using hB, h⟩
  | (q, r) :: rest, listed, a, w, hS, hB, h => by
    simp only [planB, Bool.and_eq_true] at hB
    obtain ⟨⟨h1, h2⟩, h3⟩ := hB
    unfold planLen
    refine plan_takes hs hS q listed a h1 ?_
    have h' : wpQuiet P ops S (fun a' => wpRuns P ops S Q (wpPlan P ops S Q (rest.map fun p => (p.1.map (pickO ops.toList), p.2.map (pickO ops.toList)))) (r.map (pickO ops.toList)) a' w) (q.map (pickO ops.toList)) a := h
    have mono : ∀ (l : List Oper) (a : Act) (Q1 Q2 : Act → Prop), (∀ a, Q1 a → Q2 a) → wpQuiet P ops S Q1 l a → wpQuiet P ops S Q2 l a := by
      intro l
      induction l with
      | nil => intro a Q1 Q2 hq hh; exact hq _ hh
      | cons o l ih =>
        intro a Q1 Q2 hq hh
        unfold wpQuiet at hh ⊢
        split
        · rename_i hw
          rw [if_pos hw] at hh
          exact Oper.quiet_mono (fun a ha => ih a Q1 Q2 hq ha) hh
        · rename_i hw
          rw [if_neg hw] at hh
          exact ih _ Q1 Q2 hq hh
    exact mono _ _ _ _ (fun a' ha => plan_runs r _ a' w hS h2 (fun a2 w2 hS2 hK => plan_all hs rest _ a2 w2 hS2 h3 hK) ha) h'
end

theorem wp_region_plan {P : Program} {id : Nat} {Q : Exit → Act → World → Prop} {a : Act} {w : World} {l : List Oper} (S : World → Prop) (plan : List (List Nat × List Nat)) (hm : P.follows .mixedOrders = true)
    (hB : (Region.noSelect l.toArray && decide (planLen plan = l.length) && planB .any l.toArray plan (Array.replicate l.length false)) = true) (hS : S w.drew)
    (h : wpPlan P l.toArray S Q (plan.map fun p => (p.1.map (pickO l), p.2.map (pickO l))) a w.drew) : (Code.region id l.toArray true).wp P Q a w := by
  simp only [Bool.and_eq_true, decide_eq_true_eq] at hB
  obtain ⟨⟨h1, h2⟩, h3⟩ := hB
  refine Code.wp_mono (Q := OnlyN Q) (fun e a w h => ?_) ?_
  · cases e with
    | normal => exact h
    | _ => exact h.elim
  · refine wp_region_held (S := S) hm ?_
    have := plan_all (P := P) (md := .any) (S := S) (Q := Q) h1 plan (Array.replicate l.length false) a w.drew hS h3 (by simpa using h)
    rw [h2] at this
    simpa using this
/-- The same, in the worlds that continue X. -/
theorem wp_region_planx {P : Program} {id : Nat} {Q : Exit → Act → World → Prop} {a : Act} {w : World} {l : List Oper} (X : World) (plan : List (List Nat × List Nat)) (hX : Below X.heap.size X w) (hm : P.follows .mixedOrders = true)
    (hB : (Region.noSelect l.toArray && decide (planLen plan = l.length) && planB .any l.toArray plan (Array.replicate l.length false)) = true)
    (h : ∀ u, wpPlan P l.toArray (fun w' => ∃ u, w' = ext X u) Q (plan.map fun p => (p.1.map (pickO l), p.2.map (pickO l))) a (ext X u)) : (Code.region id l.toArray true).wp P Q a w := by
  obtain ⟨u, hu⟩ := ext_of hX.drew
  refine wp_region_plan (S := fun w' => ∃ u, w' = ext X u) plan hm hB ⟨u, hu.symm⟩ ?_
  rw [← hu]
  exact h u
/-- Go on with what follows behind a letter. -/
theorem behind {K : Act → World → Prop} {a : Act} {w : World} (h : ∀ K' : Act → World → Prop, (∀ a w, K a w → K' a w) → K' a w) : K a w := h K fun _ _ h => h
theorem nxt_ext {X : World} {K : Act → World → Prop} {a : Act} {u : World} (h : K a (ext X u)) : Nxt (fun w' => ∃ u, w' = ext X u) K a (ext X u) := ⟨⟨u, rfl⟩, h⟩
theorem nxt_alloc {X : World} {K : Act → World → Prop} {a : Act} {u : World} {o : Obj} (h : K a ((ext X u).alloc o)) : Nxt (fun w' => ∃ u, w' = ext X u) K a ((ext X u).alloc o) := by
  obtain ⟨v, hv⟩ := ext_of (((below_ext X u).alloc (size_ext X u) o))
  exact ⟨⟨v, hv.symm⟩, h⟩
end Go.Proofs.YtojkpoikamcgkaaDoor
