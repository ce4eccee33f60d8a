/- A region that draws its order, in which one new variable may come into being at any time ('x, y := f(..)' where x's address is taken): the walk leaves it out, and goes on in every world that may have grown meanwhile. No program is named here. -/
import Derived.Test.YtecjhniomjmocaaPlanI
import Derived.Test.YtecjhniomjmocaaWild
import Derived.Test.YtecjhniomjmocaaOnly
namespace Go.Proofs.Ytecjhniomjmocaa
open Go.RowKit
set_option linter.unusedVariables false
set_option linter.unusedSimpArgs false

section
variable {P : Program} {ops : Array Oper} {md : Region.Mode} {S : World → Prop} {Q : Exit → Act → World → Prop}

/-- The walk without the new variable (number f, slot d): it is listed from the start; each operation is met in whatever world continues, whatever slot d holds; behind the n operations the m others follow, the variable at hand. -/
def endG (md : Region.Mode) (ops : Array Oper) (f : Nat) (q2 : List Nat) (listed : Array Bool) : Bool :=
  takesB md ops q2 listed && takesB md ops q2 (listed.setIfInBounds f false) && decide (Region.ready md ops (setAll (listed.setIfInBounds f false) q2) = [f]) && decide ((setAll (listed.setIfInBounds f false) q2).setIfInBounds f true = setAll listed q2)
/-- The walk without the new variable (number f, slot d): it is listed from the start; each operation is met in whatever world continues, whatever slot d holds; behind the n operations some are taken (q2), then the m others follow, the variable at hand. -/
def wpAnyG (P : Program) (md : Region.Mode) (ops : Array Oper) (Q : Exit → Act → World → Prop) (S : World → Prop) (f d : Nat) (o : Obj) (B : Nat) (q2 : List Nat) (m : Nat) : Nat → Array Bool → Act → World → Prop
  | 0, listed, a, w => endG md ops f q2 listed = true ∧ ∀ w'' u, Below w.heap.size w w'' → wpQuiet P ops S (fun a' => ∀ w3 u3, Below w''.heap.size w'' w3 → NewVar B o u3 w3 → wpAnyH P md ops Q S m (setAll listed q2) (a'.put (some d) u3) w3) (q2.map (pickO ops.toList)) (a.put (some d) u)
  | n + 1, listed, a, w => Region.ready md ops listed ≠ [] ∧ ∀ i ∈ Region.ready md ops listed, ∀ w'' u, Below w.heap.size w w'' → wpOp P ops Q i (fun a' w' => Below w''.heap.size w'' w' ∧ wpAnyG P md ops Q S f d o B q2 m n (listed.setIfInBounds i true) a' w') (a.put (some d) u) w''

theorem quiet_slot {C : World → Prop} {d : Nat} : ∀ (l : List Oper) (a : Act) {K : Act → Prop}, (∀ o ∈ l, o.dst ≠ some d) → wpQuiet P ops C K l a → wpQuiet P ops C (fun a' => a'.tmps[d]? = a.tmps[d]? ∧ K a') l a
  | [], a, K, _, h => ⟨rfl, h⟩
  | o :: l, a, K, hd, h => by
    have keep : ∀ (b : Act) v, (b.put o.dst v).tmps[d]? = b.tmps[d]? := fun b v => by
      unfold Act.put
      cases h9 : o.dst with
      | none => rfl
      | some e =>
        have : e ≠ d := fun h => hd o (by simp) (by rw [h9, h])
        simp [Array.getElem?_setIfInBounds, this]
    unfold wpQuiet at h ⊢
    split
    · rename_i hw
      rw [if_pos hw] at h
      obtain ⟨v, h1, h2⟩ := h
      refine ⟨v, h1, ?_⟩
      have h3 := quiet_slot l _ (fun o ho => hd o (by simp [ho])) h2
      rw [keep] at h3
      exact h3
    · rename_i hw
      rw [if_neg hw] at h
      have h3 := quiet_slot l _ (fun o ho => hd o (by simp [ho])) h
      rw [keep] at h3
      exact h3
theorem put_self (a : Act) (d : Nat) : a.put (some d) ((a.tmps[d]?).getD undef) = a := by
  obtain ⟨t, ds⟩ := a
  simp only [Act.put, Act.mk.injEq, and_true]
  apply Array.ext_getElem?
  intro i
  rw [Array.getElem?_setIfInBounds]
  split
  · rename_i h
    subst h
    split
    · rename_i h2
      simp [h2]
    · rename_i h2
      rw [Array.getElem?_eq_none (by omega)]
  · rfl
/-- An operation that does not write slot d leaves it. -/
theorem wpOp_slot {i d : Nat} {oi : Oper} (hi : ops[i]? = some oi) (hd : oi.dst ≠ some d) (hsel : ∀ cs b, oi.op ≠ .select cs b) {K : Act → World → Prop} {a : Act} {w : World} (h : wpOp P ops (OnlyN Q) i K a w) :
    wpOp P ops (OnlyN Q) i (fun a' w' => a'.tmps[d]? = a.tmps[d]? ∧ K a' w') a w := by
  have keep : ∀ (b : Act) v, (b.put oi.dst v).tmps[d]? = b.tmps[d]? := fun b v => by
    unfold Act.put
    cases h9 : oi.dst with
    | none => rfl
    | some e =>
      have : e ≠ d := fun h => hd (by rw [h9, h])
      simp [Array.getElem?_setIfInBounds, this]
  unfold wpOp at *
  simp only [hi] at *
  split
  · rename_i hw
    simp only [hw, if_true] at h
    rcases h with h | h
    case inr => exact .inr h
    refine .inl ?_
    unfold Oper.wp at *
    generalize (execOp a.eval oi).run P w = r at *
    cases r with
    | ok n w' =>
      cases n <;> simp only [Oper.upon] at h ⊢
      case value u => exact ⟨keep _ _, h⟩
      case skip => exact ⟨keep _ _, h⟩
      case defer d => exact ⟨keep _ _, h⟩
      case enter f args =>
        refine Calls.mono h fun e w'' he => ?_
        cases e with
        | returned u => exact ⟨keep _ _, he⟩
        | panicked c => exact he
        | outgrown => exact he
      case row row args => exact Rows.mono h fun u w'' he => ⟨keep _ _, he⟩
    | halt x w' =>
      cases x <;> simp only [Oper.upon] at h ⊢
      all_goals exact h
  · rename_i hw
    simp only [hw] at h
    exact ⟨keep _ _, h⟩

theorem set_set {listed : Array Bool} {f : Nat} {b c : Bool} : (listed.setIfInBounds f b).setIfInBounds f c = listed.setIfInBounds f c := by
  apply Array.ext_getElem?
  intro i
  simp only [Array.getElem?_setIfInBounds, Array.size_setIfInBounds]
  split <;> rfl
theorem set_same {listed : Array Bool} {f : Nat} (h : listed.getD f false = true) : listed.setIfInBounds f true = listed := by
  apply Array.ext_getElem?
  intro i
  rw [Array.getElem?_setIfInBounds]
  split
  · rename_i h2
    subst h2
    split
    · rename_i h3
      simp [h3] at h
      simp [h3, h]
    · rename_i h3
      rw [Array.getElem?_eq_none (by omega)]
  · rfl

theorem put_put (a : Act) (d : Nat) (u v : Value) : (a.put (some d) u).put (some d) v = a.put (some d) v := by
  unfold Act.put
  simp only [Act.mk.injEq, and_true]
  apply Array.ext_getElem?
  intro i
  simp only [Array.getElem?_setIfInBounds, Array.size_setIfInBounds]
  split <;> rfl
theorem float_run {f d : Nat} {o : Obj} {of : Oper} (hof : ops[f]? = some of) (hd : of.dst = some d) (hg : of.guard = none) (hal : ∀ (ρ : Operand → Value) (w : World), (execOp ρ of).run P w = .ok (.value (.pointer (some ⟨w.heap.size, 0, none⟩))) (w.alloc o))
    {K : Act → World → Prop} {a : Act} {u : Value} {w : World} (h : K (a.put (some d) (.pointer (some ⟨w.heap.size, 0, none⟩))) (w.alloc o)) : wpOp P ops (OnlyN Q) f K (a.put (some d) u) w := by
  unfold wpOp
  simp only [hof]
  have hw : Region.wanted of (yielded ops (a.put (some d) u).tmps) = true := by simp [Region.wanted, hg]
  rw [if_pos hw]
  left
  unfold Oper.wp
  rw [hal]
  simp only [Oper.upon]
  rw [hd, put_put]
  exact h
theorem newVar_alloc {B : Nat} (w : World) (o : Obj) (h : B ≤ w.heap.size) : NewVar B o (.pointer (some ⟨w.heap.size, 0, none⟩)) (w.alloc o) := ⟨_, rfl, h, heap_alloc_new w o⟩
theorem slot_put {a : Act} {d : Nat} {u : Value} (h : d < a.tmps.size) : (a.put (some d) u).tmps[d]? = some u := by
  unfold Act.put
  simp [Array.getElem?_setIfInBounds, h]

theorem anyG_main {f d m : Nat} {o : Obj} {B : Nat} {q2 : List Nat} {of : Oper} (hof : ops[f]? = some of) (hd : of.dst = some d) (hg : of.guard = none) (hal : ∀ (ρ : Operand → Value) (w : World), (execOp ρ of).run P w = .ok (.value (.pointer (some ⟨w.heap.size, 0, none⟩))) (w.alloc o))
    (hno : ∀ e ∈ of.after, Region.binds md e = false) (hdst : ∀ j oj, ops[j]? = some oj → j ≠ f → oj.dst ≠ some d) (hsel : Region.noSelect ops = true) (hSb : ∀ w w', S w → Below w.heap.size w w' → S w') (hSB : ∀ w, S w → B ≤ w.heap.size) :
    ∀ (n : Nat) (listed : Array Bool) (a : Act) (w : World), listed.getD f false = true → d < a.tmps.size → wpAnyG P md ops (OnlyN Q) S f d o B q2 m n listed a w →
      (∀ w' u, Below w.heap.size w w' → S w' → NewVar B o u w' → wpAnyH P md ops (OnlyN Q) S (n + (q2.length + m)) listed (a.put (some d) u) w') ∧
      (∀ w' u, Below w.heap.size w w' → S w' → wpAnyH P md ops (OnlyN Q) S (n + (q2.length + m) + 1) (listed.setIfInBounds f false) (a.put (some d) u) w') := by
  intro n
  have fready : ∀ listed : Array Bool, listed.getD f false = true → f ∈ Region.ready md ops (listed.setIfInBounds f false) := fun listed hl => by
    have hlt : f < listed.size := by
      rcases Nat.lt_or_ge f listed.size with h | h
      · exact h
      · simp [Array.getElem?_eq_none h] at hl
    refine mem_ready.2 ⟨by simp [hlt], of, hof, fun e he hb => ?_⟩
    rw [hno e he] at hb
    cases hb
  have sub : ∀ (listed : Array Bool) (i : Nat), listed.getD f false = true → i ≠ f → i ∈ Region.ready md ops (listed.setIfInBounds f false) → i ∈ Region.ready md ops listed ∧ Region.waitsFor md ops i f = false := fun listed i hl hif hi => by
    obtain ⟨h1, oi, hoi, h2⟩ := mem_ready.1 hi
    have hne : ∀ j : Nat, j ≠ f → ∀ b, (listed.setIfInBounds f false).getD j b = listed.getD j b := fun j hj b => by
      simp [Array.getElem?_setIfInBounds, Ne.symm hj]
    have hnf : ∀ e ∈ oi.after, Region.binds md e = true → e.on ≠ f := fun e he hb h9 => by
      have h3 := h2 e he hb
      rw [h9] at h3
      have hlt : f < listed.size := by
        rcases Nat.lt_or_ge f listed.size with h | h
        · exact h
        · simp [Array.getElem?_eq_none h] at hl
      simp [hlt] at h3
    refine ⟨mem_ready.2 ⟨by rw [← hne i hif]; exact h1, oi, hoi, fun e he hb => ?_⟩, ?_⟩
    · rw [← hne e.on (hnf e he hb)]; exact h2 e he hb
    · cases hw : Region.waitsFor md ops i f with
      | false => rfl
      | true =>
        obtain ⟨oj, hoj, e, he, hb, hon⟩ := Region.waitsFor_spec hw
        have : oj = oi := Option.some.inj (hoj.symm.trans hoi)
        subst this
        exact absurd hon (hnf e he hb)
  induction n with
  | zero =>
    intro listed a w hl hsz hG
    obtain ⟨he, hG⟩ := hG
    simp only [endG, Bool.and_eq_true, decide_eq_true_eq] at he
    obtain ⟨⟨⟨he1, he2⟩, he3⟩, he4⟩ := he
    have hdq : ∀ (q : List Nat) (L : Array Bool), takesB md ops q L = true → L.getD f false = true → ∀ o ∈ q.map (pickO ops.toList), o.dst ≠ some d := by
      intro q
      induction q with
      | nil => intro L _ _ o ho; simp at ho
      | cons i q ihq =>
        intro L hB hL o ho
        simp only [takesB, Bool.and_eq_true, decide_eq_true_eq] at hB
        obtain ⟨⟨⟨⟨k1, k2⟩, k3⟩, k4⟩, k5⟩ := hB
        have hif : i ≠ f := fun h => by
          subst h
          have h9 := (mem_ready.1 (show i ∈ Region.ready md ops L by simpa using k3)).1
          rcases Nat.lt_or_ge i L.size with h | h
          · simp [h] at hL h9; rw [hL] at h9; cases h9
          · simp [Array.getElem?_eq_none h] at hL
        rcases List.mem_cons.1 ho with rfl | ho
        · exact hdst i _ (pick_get k1) hif
        · exact ihq _ k5 (by simp [Array.getElem?_setIfInBounds, hif]; simpa using hL) o ho
    have hdq2 := hdq q2 listed he1 hl
    refine ⟨fun w' u hb hS hN => ?_, fun w' u hb hS => ?_⟩
    · rw [Nat.zero_add]
      refine plan_takes hsel hS q2 listed _ he1 (quiet_mono _ _ _ _ (fun a' ha => ?_) (quiet_slot _ _ hdq2 (hG w' u hb)))
      obtain ⟨h1, h2⟩ := ha
      have h5 := h2 w' u (Below.refl _ _) hN
      rw [slot_put hsz] at h1
      have e : a'.put (some d) u = a' := by
        have := put_self a' d
        rw [h1] at this
        exact this
      rw [e] at h5
      exact h5
    · rw [Nat.zero_add, Nat.add_assoc]
      refine plan_takes hsel hS q2 _ _ he2 (quiet_mono _ _ _ _ (fun a' ha => ?_) (quiet_slot _ _ hdq2 (hG w' u hb)))
      obtain ⟨h1, h2⟩ := ha
      rw [slot_put hsz] at h1
      refine wpAnyH_all he3 (by simp) fun i hi => ?_
      obtain rfl : i = f := by simpa using hi
      have e : a'.put (some d) u = a' := by
        have := put_self a' d
        rw [h1] at this
        exact this
      rw [← e]
      refine float_run hof hd hg hal ⟨hSb _ _ hS (below_self _ _), ?_⟩
      rw [he4]
      exact h2 _ _ (below_self _ _) (newVar_alloc _ _ (hSB _ hS))
  | succ n ih =>
    intro listed a w hl hsz hG
    obtain ⟨hne, hG⟩ := hG
    have step : ∀ i, i ∈ Region.ready md ops listed → ∀ w' u, Below w.heap.size w w' → S w' → ∀ (L' : Array Bool) (k : Nat), i ≠ f →
        (∀ a2 w2, wpAnyG P md ops (OnlyN Q) S f d o B q2 m n (listed.setIfInBounds i true) a2 w2 → d < a2.tmps.size → Below w'.heap.size w' w2 → a2.tmps[d]? = some u → wpAnyH P md ops (OnlyN Q) S k L' a2 w2) →
        wpOp P ops (OnlyN Q) i (fun a2 w2 => S w2 ∧ wpAnyH P md ops (OnlyN Q) S k L' a2 w2) (a.put (some d) u) w' := fun i hi w' u hb hS L' k hif hh => by
      obtain ⟨_, oi, hoi, _⟩ := mem_ready.1 hi
      refine wpOp_mono (fun a2 w2 h9 => ?_) (wpOp_slot hoi (hdst i oi hoi hif) (fun cs b => Region.noSelect_spec hsel i oi cs b hoi) (hG i hi w' u hb))
      obtain ⟨h1, h2, h3⟩ := h9
      rw [slot_put hsz] at h1
      refine ⟨hSb _ _ hS h2, hh a2 w2 h3 ?_ h2 h1⟩
      rcases Nat.lt_or_ge d a2.tmps.size with h | h
      · exact h
      · rw [Array.getElem?_eq_none h] at h1; cases h1
    have hnf : ∀ i, i ∈ Region.ready md ops listed → i ≠ f := fun i hi h => by
      subst h
      have := (mem_ready.1 hi).1
      rcases Nat.lt_or_ge i listed.size with h | h
      · simp [h] at hl this; rw [hl] at this; cases this
      · simp [Array.getElem?_eq_none h] at hl
    have hl2 : ∀ i, i ≠ f → (listed.setIfInBounds i true).getD f false = true := fun i hi => by
      simp [Array.getElem?_setIfInBounds, hi]
      simpa using hl
    refine ⟨fun w' u hb hS hN => ?_, fun w' u hb hS => ?_⟩
    · rw [show n + 1 + (q2.length + m) = (n + (q2.length + m)) + 1 by omega]
      refine ⟨fun h => absurd h hne, fun i hi => step i hi w' u hb hS _ _ (hnf i hi) fun a2 w2 h1 h2 h3 h4 => ?_⟩
      have h5 := ((ih _ a2 w2 (hl2 i (hnf i hi)) h2 h1).1 w2 u (Below.refl _ _) (hSb _ _ hS h3) (hN.keep h3))
      have e : a2.put (some d) u = a2 := by
        have := put_self a2 d
        rw [h4] at this
        exact this
      rw [e] at h5
      exact h5
    · rw [show n + 1 + (q2.length + m) + 1 = (n + 1 + (q2.length + m)) + 1 by omega]
      refine ⟨fun h => (by have := fready listed hl; rw [h] at this; cases this), fun i hi => ?_⟩
      by_cases hif : i = f
      · subst hif
        refine float_run hof hd hg hal ⟨hSb _ _ hS (below_self _ _), ?_⟩
        rw [set_set, set_same hl]
        rw [show n + 1 + (q2.length + m) = (n + (q2.length + m)) + 1 by omega]
        refine ⟨fun h => absurd h hne, fun j hj => step j hj _ _ (hb.alloc hb.size _) (hSb _ _ hS (below_self _ _)) _ _ (hnf j hj) fun a2 w2 h1 h2 h3 h4 => ?_⟩
        have h5 := ((ih _ a2 w2 (hl2 j (hnf j hj)) h2 h1).1 w2 _ (Below.refl _ _) (hSb _ _ (hSb _ _ hS (below_self _ _)) h3) ((newVar_alloc _ _ (hSB _ hS)).keep h3))
        have e : a2.put (some d) (.pointer (some ⟨w'.heap.size, 0, none⟩)) = a2 := by
          have := put_self a2 d
          rw [h4] at this
          exact this
        rw [e] at h5
        exact h5
      · obtain ⟨h1, h2⟩ := sub listed i hl hif hi
        refine step i h1 w' u hb hS _ _ hif fun a2 w2 h3 h4 h5 h6 => ?_
        have h7 := ((ih _ a2 w2 (hl2 i hif) h4 h3).2 w2 u (Below.refl _ _) (hSb _ _ hS h5))
        have e : a2.put (some d) u = a2 := by
          have := put_self a2 d
          rw [h6] at this
          exact this
        rw [e, Array.setIfInBounds_comm _ _ hif] at h7
        rw [show n + 1 + (q2.length + m) = n + (q2.length + m) + 1 by omega]
        exact h7
/-- One operation alone may come up. -/
theorem anyG_run {f d m n i : Nat} {o : Obj} {B : Nat} {q2 : List Nat} {oi : Oper} {listed : Array Bool} {a : Act} {w : World} (hr : Region.ready md ops listed = [i]) (ho : ops[i]? = some oi)
    (h : ∀ w'' u, Below w.heap.size w w'' → ∀ K : Act → World → Prop, (∀ a' w', Below w''.heap.size w'' w' → wpAnyG P md ops (OnlyN Q) S f d o B q2 m n (listed.setIfInBounds i true) a' w' → K a' w') → wpList P ops (Exit.then K (OnlyN Q)) [oi] (a.put (some d) u) w'') :
    wpAnyG P md ops (OnlyN Q) S f d o B q2 m (n + 1) listed a w := by
  refine ⟨by rw [hr]; simp, fun j hj w'' u hb => ?_⟩
  rw [hr] at hj
  obtain rfl : j = i := by simpa using hj
  exact run_one ho (h w'' u hb _ fun _ _ h1 h2 => ⟨h1, h2⟩)
/-- Two operations may come up. -/
theorem anyG_two {f d m n i j : Nat} {o : Obj} {B : Nat} {q2 : List Nat} {oi oj : Oper} {listed : Array Bool} {a : Act} {w : World} (hr : Region.ready md ops listed = [i, j]) (ho : ops[i]? = some oi) (ho2 : ops[j]? = some oj)
    (h : ∀ w'' u, Below w.heap.size w w'' → ∀ K : Act → World → Prop, (∀ a' w', Below w''.heap.size w'' w' → wpAnyG P md ops (OnlyN Q) S f d o B q2 m n (listed.setIfInBounds i true) a' w' → K a' w') → wpList P ops (Exit.then K (OnlyN Q)) [oi] (a.put (some d) u) w'')
    (h2 : ∀ w'' u, Below w.heap.size w w'' → ∀ K : Act → World → Prop, (∀ a' w', Below w''.heap.size w'' w' → wpAnyG P md ops (OnlyN Q) S f d o B q2 m n (listed.setIfInBounds j true) a' w' → K a' w') → wpList P ops (Exit.then K (OnlyN Q)) [oj] (a.put (some d) u) w'') :
    wpAnyG P md ops (OnlyN Q) S f d o B q2 m (n + 1) listed a w := by
  refine ⟨by rw [hr]; simp, fun k hk w'' u hb => ?_⟩
  rw [hr] at hk
  simp only [List.mem_cons, List.not_mem_nil, or_false] at hk
  rcases hk with rfl | rfl
  · exact run_one ho (h w'' u hb _ fun _ _ h1 h2 => ⟨h1, h2⟩)
  · exact run_one ho2 (h2 w'' u hb _ fun _ _ h1 h2 => ⟨h1, h2⟩)
/-- What slot d holds does not matter. -/
theorem anyG_slot {f d m n : Nat} {o : Obj} {B : Nat} {q2 : List Nat} {listed : Array Bool} {a : Act} {w : World} {x : Value} (h : wpAnyG P md ops Q S f d o B q2 m n listed a w) : wpAnyG P md ops Q S f d o B q2 m n listed (a.put (some d) x) w := by
  cases n with
  | zero => exact ⟨h.1, fun w'' u hb => by rw [put_put]; exact h.2 w'' u hb⟩
  | succ n => exact ⟨h.1, fun i hi w'' u hb => by rw [put_put]; exact h.2 i hi w'' u hb⟩
theorem anyG_slot_inv {f d m n : Nat} {o : Obj} {B : Nat} {q2 : List Nat} {listed : Array Bool} {a : Act} {w : World} {x : Value} (h : wpAnyG P md ops Q S f d o B q2 m n listed (a.put (some d) x) w) : wpAnyG P md ops Q S f d o B q2 m n listed a w := by
  have := anyG_slot (x := (a.tmps[d]?).getD undef) h
  rw [put_put, put_self] at this
  exact this
theorem anyG_later {f d m n : Nat} {o : Obj} {B : Nat} {q2 : List Nat} {listed : Array Bool} {a : Act} {w w' : World} (h : wpAnyG P md ops Q S f d o B q2 m n listed a w) (hb : Below w.heap.size w w') : wpAnyG P md ops Q S f d o B q2 m n listed a w' := by
  cases n with
  | zero => exact ⟨h.1, fun w'' u h2 => h.2 w'' u (hb.trans (h2.mono hb.size))⟩
  | succ n => exact ⟨h.1, fun i hi w'' u h2 => h.2 i hi w'' u (hb.trans (h2.mono hb.size))⟩
/-- Ways that meet again: what follows is shown once, for whatever three numbers the ways have found. -/
theorem anyG_share {f d m n k : Nat} {o : Obj} {B : Nat} {q2 : List Nat} {listed : Array Bool} {a : Act} {w : World} (listed2 : Array Bool) (F : Nat → Nat → Nat → World → Prop)
    (h : ∃ fr : Nat → Nat → Nat → Act, ((∀ x y z w', F x y z w' → wpAnyG P md ops Q S f d o B q2 m k listed2 (fr x y z) w') → wpAnyG P md ops Q S f d o B q2 m n listed a w) ∧ (∀ x y z w', F x y z w' → wpAnyG P md ops Q S f d o B q2 m k listed2 (fr x y z) w')) : wpAnyG P md ops Q S f d o B q2 m n listed a w := by
  obtain ⟨fr, h1, h2⟩ := h
  exact h1 h2
theorem anyG_listed {f d m n : Nat} {o : Obj} {B : Nat} {q2 : List Nat} {listed listed' : Array Bool} {a : Act} {w : World} (e : listed = listed') (h : wpAnyG P md ops Q S f d o B q2 m n listed' a w) : wpAnyG P md ops Q S f d o B q2 m n listed a w := e ▸ h
/-- Two operations that only look at slots may come up, in either order. -/
theorem anyG_pair {f d m n i j e1 e2 : Nat} {o : Obj} {B : Nat} {q2 : List Nat} {oi oj : Oper} {v1 v2 : Value} {listed : Array Bool} {a : Act} {w : World} (hr : Region.ready md ops listed = [i, j]) (hr1 : Region.ready md ops (listed.setIfInBounds i true) = [j]) (hr2 : Region.ready md ops (listed.setIfInBounds j true) = [i])
    (ho : ops[i]? = some oi) (ho2 : ops[j]? = some oj) (hd1 : oi.dst = some e1) (hd2 : oj.dst = some e2) (hne : e1 ≠ e2) (h1d : e1 ≠ d) (h2d : e2 ≠ d) (hij : i ≠ j)
    (hy1 : ∀ u, Yields P ops oi v1 (a.put (some d) u)) (hy2 : ∀ u, Yields P ops oj v2 (a.put (some d) u)) (hy3 : ∀ u, Yields P ops oi v1 ((a.put (some e2) v2).put (some d) u)) (hy4 : ∀ u, Yields P ops oj v2 ((a.put (some e1) v1).put (some d) u))
    (h : wpAnyG P md ops (OnlyN Q) S f d o B q2 m n ((listed.setIfInBounds i true).setIfInBounds j true) ((a.put (some e1) v1).put (some e2) v2) w) : wpAnyG P md ops (OnlyN Q) S f d o B q2 m (n + 2) listed a w := by
  have comm : ∀ (b : Act) (x y : Nat) (vx vy : Value), x ≠ y → (b.put (some x) vx).put (some y) vy = (b.put (some y) vy).put (some x) vx := fun b x y vx vy hxy => by
    unfold Act.put
    simp only [Act.mk.injEq, and_true]
    exact Array.setIfInBounds_comm _ _ hxy
  refine ⟨by rw [hr]; simp, fun k hk w1 u1 hb1 => ?_⟩
  rw [hr] at hk
  simp only [List.mem_cons, List.not_mem_nil, or_false] at hk
  rcases hk with rfl | rfl
  · refine ((hy1 u1).yieldsIf (S := fun _ => True)).wpOp ho trivial ⟨Below.refl _ _, by rw [hr1]; simp, fun k2 hk2 w2 u2 hb2 => ?_⟩
    rw [hr1] at hk2
    obtain rfl : k2 = j := by simpa using hk2
    rw [hd1, comm _ _ _ _ _ (Ne.symm h1d), put_put]
    refine ((hy4 u2).yieldsIf (S := fun _ => True)).wpOp ho2 trivial ⟨Below.refl _ _, ?_⟩
    rw [hd2, comm _ _ _ _ _ (Ne.symm h2d)]
    exact anyG_slot (anyG_later h (hb1.trans (hb2.mono hb1.size)))
  · refine ((hy2 u1).yieldsIf (S := fun _ => True)).wpOp ho2 trivial ⟨Below.refl _ _, by rw [hr2]; simp, fun k2 hk2 w2 u2 hb2 => ?_⟩
    rw [hr2] at hk2
    obtain rfl : k2 = i := by simpa using hk2
    rw [hd2, comm _ _ _ _ _ (Ne.symm h2d), put_put]
    refine ((hy3 u2).yieldsIf (S := fun _ => True)).wpOp ho trivial ⟨Below.refl _ _, ?_⟩
    rw [hd1, comm _ _ _ _ _ (Ne.symm h1d), comm a e2 e1 _ _ (Ne.symm hne), Array.setIfInBounds_comm _ _ (Ne.symm hij)]
    exact anyG_slot (anyG_later h (hb1.trans (hb2.mono hb1.size)))
end

/-- The side conditions of the law, as a Bool. -/
def floatB (md : Region.Mode) (l : List Oper) (f d : Nat) (q q2 : List Nat) (n m : Nat) : Bool :=
  Region.noSelect l.toArray && decide (q.length + (n + (q2.length + m) + 1) = l.length) && takesB md l.toArray q (Array.replicate l.length false) && !(setAll (Array.replicate l.length false) q).getD f true && decide (f < l.length) &&
  decide ((pickO l f).dst = some d) && (pickO l f).guard.isNone && (pickO l f).after.all (fun e => !Region.binds md e) && (List.range l.length).all fun j => j == f || decide ((pickO l j).dst ≠ some d)
/-- **The region's law.** f: the new variable's operation, d its slot; q: what is taken first; n others; then the m that wait for the variable. -/
theorem region_float {P : Program} {id : Nat} {Q : Exit → Act → World → Prop} {a : Act} {w : World} {l : List Oper} (X : World) (f d : Nat) (o : Obj) (q q2 : List Nat) (n m : Nat) (hX : Below X.heap.size X w) (hm : P.follows .mixedOrders = true)
    (hB : floatB .any l f d q q2 n m = true) (hal : ∀ (ρ : Operand → Value) (w : World), (execOp ρ (pickO l f)).run P w = .ok (.value (.pointer (some ⟨w.heap.size, 0, none⟩))) (w.alloc o))
    (h : ∀ u, wpQuiet P l.toArray (fun w' => ∃ u, w' = ext X u) (fun a' => d < a'.tmps.size ∧ wpAnyG P .any l.toArray (OnlyN Q) (fun w' => ∃ u, w' = ext X u) f d o X.heap.size q2 m n ((setAll (Array.replicate l.length false) q).setIfInBounds f true) a' (ext X u)) (q.map (pickO l)) a) :
    (Code.region id l.toArray true).wp P Q a w := by
  obtain ⟨u, hu⟩ := ext_of hX.drew
  have hS : (fun w' => ∃ u, w' = ext X u) w.drew := ⟨u, hu.symm⟩
  simp only [floatB, Bool.and_eq_true, decide_eq_true_eq, Bool.not_eq_true', List.all_eq_true, List.mem_range, Bool.or_eq_true, beq_iff_eq] at hB
  obtain ⟨⟨⟨⟨⟨⟨⟨⟨h1, h2⟩, h3⟩, h4⟩, h5⟩, h6⟩, h7⟩, h8⟩, h9⟩ := hB
  have hof : l.toArray[f]? = some (pickO l f) := pick_get (ops := l.toArray) (by simpa using h5)
  have hlt : f < (setAll (Array.replicate l.length false) q).size := by
    rcases Nat.lt_or_ge f (setAll (Array.replicate l.length false) q).size with h | h
    · exact h
    · simp [Array.getElem?_eq_none h] at h4
  refine Code.wp_mono (Q := OnlyN Q) (fun e a w h => ?_) ?_
  · cases e with
    | normal => exact h
    | _ => exact h.elim
  · refine wp_region_held (S := fun w' => ∃ u, w' = ext X u) hm ?_
    have key := plan_takes (P := P) (md := .any) (ops := l.toArray) (S := fun w' => ∃ u, w' = ext X u) h1 (Q := Q) (fuel := n + (q2.length + m) + 1) (w := w.drew) hS q (Array.replicate l.length false) a h3 (by
      refine quiet_mono _ _ _ _ (fun a' ha => ?_) (h u)
      obtain ⟨hsz, ha⟩ := ha
      have hno : ∀ e ∈ (pickO l f).after, Region.binds .any e = false := fun e he => by
        have := Array.all_eq_true_iff_forall_mem.1 h8 e he
        simpa using this
      have hdst : ∀ (j : Nat) (oj : Oper), l.toArray[j]? = some oj → j ≠ f → oj.dst ≠ some d := fun j oj hj hjf => by
        have hjl : j < l.length := by
          rcases Nat.lt_or_ge j l.length with h | h
          · exact h
          · rw [Array.getElem?_eq_none (by simpa using h)] at hj; cases hj
        have e := pick_get (ops := l.toArray) (i := j) (by simpa using hjl)
        have e2 : oj = pickO l j := Option.some.inj (hj.symm.trans e)
        rw [e2]
        rcases h9 j hjl with h | h
        · exact absurd h hjf
        · exact h
      have big := anyG_main (P := P) (md := .any) (ops := l.toArray) (S := fun w' => ∃ u, w' = ext X u) (Q := Q) (f := f) (d := d) (m := m) (o := o) (B := X.heap.size) (q2 := q2) hof h6 (by simpa using h7) hal hno hdst h1 (fun w1 w2 hs hb => by
        obtain ⟨u1, rfl⟩ := hs
        obtain ⟨v, hv⟩ := ext_more hb
        exact ⟨v, hv.symm⟩) (fun w1 hs => by
        obtain ⟨u1, rfl⟩ := hs
        exact size_ext X u1) n _ a' (ext X u) (by simp [hlt]) hsz ha
      have b2 := big.2 (ext X u) ((a'.tmps[d]?).getD undef) (Below.refl _ _) ⟨u, rfl⟩
      rw [put_self, set_set, hu] at b2
      have e3 : (setAll (Array.replicate l.length false) q).setIfInBounds f false = setAll (Array.replicate l.length false) q := by
        apply Array.ext_getElem?
        intro i
        rw [Array.getElem?_setIfInBounds]
        split
        · rename_i hi
          subst hi
          simp [hlt] at h4
          simp [hlt, h4]
        · rfl
      rw [e3] at b2
      exact b2)
    rw [h2] at key
    simpa using key
section
variable {P : Program} {l : List Oper} {Q : Exit → Act → World → Prop} {S : World → Prop}
/-- The end of the walk without the variable: what is taken, then the rest, in one order. -/
theorem anyG_end {f d m : Nat} {o : Obj} {B : Nat} {q2 : List Nat} {listed : Array Bool} {a : Act} {w : World} (r : List Nat) (hS : S w) (hSb : ∀ w w', S w → Below w.heap.size w w' → S w') (he : endG .any l.toArray f q2 listed = true) (hm : r.length = m) (hB : (runsB .any l.toArray r (setAll listed q2) && (Region.ready .any l.toArray (setAll (setAll listed q2) r)).isEmpty) = true)
    (h : ∀ w'' u, Below w.heap.size w w'' → wpQuiet P l.toArray S (fun a' => ∀ w3 u3, Below w''.heap.size w'' w3 → NewVar B o u3 w3 → RunK P l S Q (fun a w => Q .normal a w) [] r (a'.put (some d) u3) w3) (q2.map (pickO l)) (a.put (some d) u)) : wpAnyG P .any l.toArray (OnlyN Q) S f d o B q2 m 0 listed a w := by
  subst hm
  simp only [Bool.and_eq_true] at hB
  refine ⟨he, fun w'' u hb => quiet_mono _ _ _ _ (fun a' ha w3 u3 h3 hN => ?_) (h w'' u hb)⟩
  have := plan_runs (P := P) (md := .any) (ops := l.toArray) (S := S) (Q := Q) (fuel := 0) (K := fun a w => Q .normal a w) r (setAll listed q2) (a'.put (some d) u3) w3 (hSb _ _ (hSb _ _ hS hb) h3) hB.1 (fun a' w' _ hK => ⟨by simpa using hB.2, hK⟩) (ha w3 u3 h3 hN)
  simpa using this
theorem ext_cl {X : World} : ∀ w w' : World, (fun w' => ∃ u, w' = ext X u) w → Below w.heap.size w w' → (fun w' => ∃ u, w' = ext X u) w' := fun w1 w2 hs hb => by
  obtain ⟨u1, rfl⟩ := hs
  obtain ⟨v, hv⟩ := ext_more hb
  exact ⟨v, hv.symm⟩
end
end Go.Proofs.Ytecjhniomjmocaa
