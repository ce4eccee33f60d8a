/- Layer 12 (resolve), in plain words: with all alternatives and their tests turned round, the zones are the same but for their order. No program is named here. -/
import Derived.Test.YtecjhniomjmocaaResX
namespace Go.Proofs.Ytecjhniomjmocaa
open Go.RowKit
set_option linter.unusedVariables false
set_option linter.unusedSimpArgs false

def turnW (ws : List (List Ts)) : List (List Ts) := ws.reverse.map List.reverse
/-- An item, its alternatives and the tests of each turned round. -/
def turnI (x : It) : It := (x.1, x.2.1, turnW x.2.2.1, x.2.2.2.1, x.2.2.2.2.1, x.2.2.2.2.2.1, x.2.2.2.2.2.2)
def capR (c : Option Int × Option Int) (r : Rg) : Rg := ((match c.1 with | none => r.1 | some l => max r.1 l), (match c.2 with | none => r.2 | some h => min r.2 h))
def chC (op n : Int) : List (Option Int × Option Int) :=
  if op = 1 then [(some n, some n)] else if op = 2 then [(none, some (n - 1)), (some (n + 1), none)] else if op = 3 then [(none, some (n - 1))] else if op = 4 then [(none, some n)]
  else if op = 5 then [(some (n + 1), none)] else if op = 6 then [(some n, none)] else []
def neR (r : Rg) : Bool := decide (r.1 ≤ r.2)
theorem within_cap (r : Rg) (op n : Int) : withinP r op n = ((chC op n).map fun c => capR c r).filter neR := by
  have : candP r op n = (chC op n).map fun c => capR c r := by
    unfold candP chC
    repeat' split
    all_goals rfl
  unfold withinP
  rw [this]
  rfl
theorem cap_comm (c d : Option Int × Option Int) (r : Rg) : capR c (capR d r) = capR d (capR c r) := by
  obtain ⟨c1, c2⟩ := c
  obtain ⟨d1, d2⟩ := d
  cases c1 <;> cases c2 <;> cases d1 <;> cases d2 <;> refine Prod.ext ?_ ?_ <;> first | rfl | (simp only [capR]; omega)
theorem cap_ne {c : Option Int × Option Int} {r : Rg} (h : neR (capR c r) = true) : neR r = true := by
  obtain ⟨c1, c2⟩ := c
  unfold neR at *
  simp only [decide_eq_true_eq] at *
  cases c1 <;> cases c2 <;> simp only [capR] at h <;> omega
theorem filter_two (r : Rg) (l2 : List (Option Int × Option Int)) : ∀ l1 : List (Option Int × Option Int),
    ((l1.map fun c => capR c r).filter neR).flatMap (fun s => (l2.map fun d => capR d s).filter neR) = (l1.flatMap fun c => l2.map fun d => capR d (capR c r)).filter neR
  | [] => rfl
  | c :: l1 => by
    have ih := filter_two r l2 l1
    rw [List.map_cons, List.flatMap_cons, List.filter_append, ← ih]
    cases h : neR (capR c r) with
    | true => rw [List.filter_cons_of_pos h, List.flatMap_cons]
    | false =>
      rw [List.filter_cons_of_neg (by rw [h]; simp)]
      have : (l2.map fun d => capR d (capR c r)).filter neR = [] := by
        rw [List.filter_eq_nil_iff]
        intro s hs
        obtain ⟨d, _, rfl⟩ := List.mem_map.1 hs
        intro h2
        have := cap_ne h2
        rw [h] at this
        cases this
      rw [this, List.nil_append]
theorem perm_pull {α β : Type} (g : α → β) (h : α → List β) : ∀ l : List α, (l.flatMap fun d => g d :: h d).Perm (l.map g ++ l.flatMap h)
  | [] => .refl _
  | d :: l => by
    rw [List.flatMap_cons, List.map_cons, List.flatMap_cons, List.cons_append, List.cons_append]
    refine .cons _ ?_
    refine (List.Perm.append_left (h d) (perm_pull g h l)).trans ?_
    exact List.perm_append_comm_assoc _ _ _
theorem perm_swap {α β γ : Type} (f : α → β → γ) (l2 : List β) : ∀ l1 : List α, (l1.flatMap fun c => l2.map fun d => f c d).Perm (l2.flatMap fun d => l1.map fun c => f c d)
  | [] => by simp
  | c :: l1 => by
    rw [List.flatMap_cons]
    simp only [List.map_cons]
    exact ((List.Perm.append_left _ (perm_swap f l2 l1)).trans (perm_pull (fun d => f c d) (fun d => l1.map fun c => f c d) l2).symm)
theorem perm_each {α β : Type} {f g : α → List β} : ∀ {l : List α}, (∀ x ∈ l, (f x).Perm (g x)) → (l.flatMap f).Perm (l.flatMap g)
  | [], _ => .refl _
  | x :: l, h => by
    rw [List.flatMap_cons, List.flatMap_cons]
    exact (h x (by simp)).append (perm_each fun y hy => h y (by simp [hy]))
theorem within_comm (r : Rg) (o1 n1 o2 n2 : Int) : ((withinP r o1 n1).flatMap fun s => withinP s o2 n2).Perm ((withinP r o2 n2).flatMap fun s => withinP s o1 n1) := by
  simp only [within_cap]
  rw [filter_two, filter_two]
  refine List.Perm.filter _ ((perm_swap (fun c d => capR d (capR c r)) (chC o2 n2) (chC o1 n1)).trans ?_)
  simp only [cap_comm]
  exact .refl _
theorem step_comm {z : Zn} {a1 a2 : Nat} {o1 n1 o2 n2 : Int} (hz : z.length = 10) (h1 : a1 < 10) (h2 : a2 < 10) :
    ((stepZ z a1 o1 n1).flatMap fun y => stepZ y a2 o2 n2).Perm ((stepZ z a2 o2 n2).flatMap fun y => stepZ y a1 o1 n1) := by
  unfold stepZ
  rw [List.flatMap_map, List.flatMap_map]
  by_cases e : a1 = a2
  · subst e
    simp only [atR_set (z := z) (a := a1) (b := a1) (by omega), if_true, List.set_set]
    rw [← List.map_flatMap, ← List.map_flatMap]
    exact (within_comm _ _ _ _ _).map _
  · simp only [atR_set (z := z) (a := a1) (b := a2) (by omega), atR_set (z := z) (a := a2) (b := a1) (by omega), if_neg e, if_neg (Ne.symm e)]
    refine (perm_swap (fun s r => (z.set a1 s).set a2 r) _ _).trans ?_
    simp only [List.set_comm _ _ e]
    exact .refl _
theorem next_perm {L : Nm} {t : Ts} {out out' : List Zn} (h : out.Perm out') : (nextZ L out t).Perm (nextZ L out' t) := h.flatMap_right _
theorem next_comm {L : Nm} {t1 t2 : Ts} {out : List Zn} (h : ∀ z ∈ out, okZn z) : (nextZ L (nextZ L out t1) t2).Perm (nextZ L (nextZ L out t2) t1) := by
  unfold nextZ
  rw [List.flatMap_assoc, List.flatMap_assoc]
  exact perm_each fun z hz => step_comm (h z hz).1 (numP_lt L t1) (numP_lt L t2)
theorem fold_perm {L : Nm} {l1 l2 : List Ts} (h : l1.Perm l2) : ∀ {out out' : List Zn}, (∀ z ∈ out, okZn z) → out.Perm out' → (l1.foldl (nextZ L) out).Perm (l2.foldl (nextZ L) out') := by
  induction h with
  | nil => intro out out' _ h; exact h
  | cons t _ ih => intro out out' ho h; exact ih (next_ok ho) (next_perm h)
  | swap a b l =>
    intro out out' ho h
    have key : ∀ (l : List Ts) {o o' : List Zn}, o.Perm o' → (l.foldl (nextZ L) o).Perm (l.foldl (nextZ L) o') := by
      intro l
      induction l with
      | nil => intro o o' h; exact h
      | cons t l ih => intro o o' h; exact ih (next_perm h)
    exact key l ((next_comm ho).trans (next_perm (next_perm h)))
  | trans _ _ ih1 ih2 => intro out out' ho h; exact (ih1 ho (.refl _)).trans (ih2 ho h)
theorem zonesP_perm {L : Nm} {l1 l2 : List Ts} (h : l1.Perm l2) : (zonesP L l1).Perm (zonesP L l2) :=
  fold_perm h (by intro z hz; simp at hz; subst hz; exact limZ_ok) (.refl _)
theorem zonesI_turn (L : Nm) (x : It) : (zonesI L (turnI x)).Perm (zonesI L x) := by
  obtain ⟨kd, nm, ws, n, R, S, att⟩ := x
  show (if turnW ws = [] then [limZ] else (turnW ws).flatMap (zonesP L)).Perm (if ws = [] then [limZ] else ws.flatMap (zonesP L))
  by_cases h : ws = []
  · subst h; exact .refl _
  · rw [if_neg h, if_neg (by unfold turnW; simpa using h)]
    unfold turnW
    rw [List.flatMap_map]
    refine (perm_each fun l _ => zonesP_perm (List.reverse_perm l)).trans ?_
    exact (List.reverse_perm ws).flatMap_right _
theorem badT_iff {L : Nm} : ∀ {l : List Ts}, badT L l = none ↔ ∀ t ∈ l, (numP L t).1 = 0
  | [] => by simp [badT]
  | t :: l => by
    rw [badT]
    by_cases h : (numP L t).1 = 0
    · rw [if_pos h, badT_iff]
      simp [h]
    · rw [if_neg h]
      simp [h]
theorem badW_iff {L : Nm} : ∀ {ws : List (List Ts)}, badW L ws = none ↔ ∀ l ∈ ws, ∀ t ∈ l, (numP L t).1 = 0
  | [] => by simp [badW]
  | l :: ws => by
    rw [badW]
    cases h : badT L l with
    | some e =>
      refine ⟨fun h => (by cases h), fun h2 => ?_⟩
      rw [badT_iff.2 (h2 l (by simp))] at h
      cases h
    | none =>
      rw [badT_iff] at h
      simp only [List.mem_cons, forall_eq_or_imp]
      exact ⟨fun h2 => ⟨h, badW_iff.1 h2⟩, fun h2 => badW_iff.2 h2.2⟩
theorem mem_turn {ws : List (List Ts)} {p : Ts → Prop} : (∀ l ∈ turnW ws, ∀ t ∈ l, p t) ↔ ∀ l ∈ ws, ∀ t ∈ l, p t := by
  unfold turnW
  constructor
  · intro h l hl t ht
    exact h l.reverse (by simpa using hl) t (by simpa using ht)
  · intro h l hl t ht
    obtain ⟨l', h1, rfl⟩ := List.mem_map.1 hl
    exact h l' (by simpa using h1) t (by simpa using ht)
theorem fault0_iff {L : Nm} {tw : Bool} {x : It} : (faultI L tw x).1 = 0 ↔ tw = false ∧ 1 ≤ x.1 ∧ x.1 ≤ 7 ∧ inRangeP x = true ∧ badW L x.2.2.1 = none ∧ (zonesI L x).length ≤ 200 := by
  constructor
  · intro h
    obtain ⟨a, b, c, d, e, f⟩ := fault_none h
    exact ⟨f, d, e, c, a, b⟩
  · rintro ⟨a, b, c, d, e, f⟩
    unfold faultI
    rw [if_neg (by rw [a]; decide), if_neg (by omega), if_neg (by rw [d]; decide), e]
    simp only
    rw [if_neg (by omega)]
theorem fault_turn {L : Nm} {tw : Bool} {x : It} : (faultI L tw (turnI x)).1 = 0 ↔ (faultI L tw x).1 = 0 := by
  rw [fault0_iff, fault0_iff, (zonesI_turn L x).length_eq]
  have : badW L (turnI x).2.2.1 = none ↔ badW L x.2.2.1 = none := by
    rw [badW_iff, badW_iff]
    exact mem_turn
  rw [this]
  exact Iff.rfl
theorem twice_turn (l : List It) (i : Nat) (x : It) : twiceP (l.map turnI) i (turnI x) = twiceP l i x := by
  unfold twiceP
  rw [← List.map_take, List.any_map]
  rfl
theorem ft_turn {L : Nm} {l : List It} : ∀ n, (faultsTo L (l.map turnI) n).length = (faultsTo L l n).length
  | 0 => rfl
  | n + 1 => by
    rw [faultsTo, faultsTo, List.length_append, List.length_append, ft_turn n, List.getElem?_map]
    cases h : l[n]? with
    | none => rfl
    | some x =>
      simp only [Option.map_some]
      by_cases h0 : (faultI L (twiceP l n x) x).1 = 0
      · rw [if_pos h0, if_pos (by rw [twice_turn]; exact fault_turn.2 h0)]
      · rw [if_neg h0, if_neg (by rw [twice_turn]; exact fun h => h0 (fault_turn.1 h))]
        rfl
theorem fp_turn (L : Nm) (l : List It) : (faultsP L (l.map turnI)).length = (faultsP L l).length := by
  unfold faultsP
  rw [List.length_append, List.length_append, List.length_map, ft_turn, List.getElem?_map]
  cases l[200]? <;> rfl
theorem fp_turn_nil {L : Nm} {l : List It} : faultsP L (l.map turnI) = [] ↔ faultsP L l = [] := by
  rw [← List.length_eq_zero_iff, ← List.length_eq_zero_iff, fp_turn]
theorem rp_turn (L : Nm) (l : List It) : (rulesP L (l.map turnI)).length = (rulesP L l).length := by
  by_cases h : faultsP L l = []
  · rw [rules_len h, rules_len (fp_turn_nil.2 h), List.length_map]
  · rw [rules_none h, rules_none fun h2 => h (fp_turn_nil.1 h2)]
/-- The same rules have a zone with the facts (or whatever else is asked of a zone). -/
theorem any_turn {L : Nm} {l : List It} {k : Nat} {r s : Rl} (p : Zn → Bool) (h1 : (rulesP L l)[k]? = some r) (h2 : (rulesP L (l.map turnI))[k]? = some s) : r.2.2.1.any p = s.2.2.1.any p := by
  obtain ⟨x, hx, rfl, _⟩ := rules_of h1
  obtain ⟨y, hy, rfl, _⟩ := rules_of h2
  rw [List.getElem?_map, hx] at hy
  obtain rfl := Option.some.inj hy
  exact (zonesI_turn L x).any_eq.symm
end Go.Proofs.Ytecjhniomjmocaa
