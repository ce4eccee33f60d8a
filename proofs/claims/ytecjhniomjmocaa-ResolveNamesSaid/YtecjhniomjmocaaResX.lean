/- Layer 12 (resolve), in plain words: what Compile answers where there is no fault; zones lie within the limits, and apart. No program is named here. -/
import Derived.Test.YtecjhniomjmocaaResQ
namespace Go.Proofs.Ytecjhniomjmocaa
open Go.RowKit
set_option linter.unusedVariables false
set_option linter.unusedSimpArgs false

theorem faultsTo_none {L : Nm} {l : List It} : ∀ {n i : Nat} {x : It}, faultsTo L l n = [] → i < n → l[i]? = some x → (faultI L (twiceP l i x) x).1 = 0
  | 0, i, x, _, h, _ => by omega
  | n + 1, i, x, h, hi, hx => by
    rw [faultsTo] at h
    obtain ⟨h1, h2⟩ := List.append_eq_nil_iff.1 h
    by_cases hin : i < n
    · exact faultsTo_none h1 hin hx
    · obtain rfl : i = n := by omega
      rw [hx] at h2
      simp only at h2
      by_cases h0 : (faultI L (twiceP l i x) x).1 = 0
      · exact h0
      · rw [if_neg h0] at h2; cases h2
theorem rulesTo_at {L : Nm} {l : List It} : ∀ {n i : Nat} {x : It}, n ≤ l.length → i < n → l[i]? = some x → (rulesTo L l n)[i]? = some (if (faultI L (twiceP l i x) x).1 = 0 then ruleI L x else zeroRl) ∧ (rulesTo L l n).length = n
  | 0, i, x, _, h, _ => by omega
  | n + 1, i, x, hn, hi, hx => by
    have hlen : ∀ m, m ≤ l.length → (rulesTo L l m).length = m := by
      intro m
      induction m with
      | zero => intro _; rfl
      | succ m ih =>
        intro hm
        rw [rulesTo, List.getElem?_eq_getElem (show m < l.length by omega), List.length_append, ih (by omega)]
        rfl
    refine ⟨?_, hlen _ hn⟩
    rw [rulesTo]
    by_cases hin : i < n
    · rw [List.getElem?_append_left (by rw [hlen n (by omega)]; exact hin)]
      exact (rulesTo_at (by omega) hin hx).1
    · obtain rfl : i = n := by omega
      rw [List.getElem?_append_right (by rw [hlen i (by omega)]; exact Nat.le_refl _), hlen i (by omega), hx]
      simp
theorem fault_none {L : Nm} {tw : Bool} {x : It} (h : (faultI L tw x).1 = 0) : badW L x.2.2.1 = none ∧ (zonesI L x).length ≤ 200 ∧ inRangeP x = true ∧ 1 ≤ x.1 ∧ x.1 ≤ 7 ∧ tw = false := by
  unfold faultI at h
  split at h
  · simp at h
  · rename_i h1
    split at h
    · simp at h
    · rename_i h2
      split at h
      · simp at h
      · rename_i h3
        split at h
        · rename_i e he
          exact absurd h (badW_ne he).1
        · rename_i h4
          split at h
          · simp at h
          · rename_i h5
            exact ⟨h4, by omega, by simpa using h3, by omega, by omega, by simpa using h1⟩
theorem faults_short {L : Nm} {l : List It} (h : faultsP L l = []) : l.length ≤ 200 ∧ faultsTo L l l.length = [] := by
  unfold faultsP at h
  obtain ⟨h1, h2⟩ := List.append_eq_nil_iff.1 h
  have hl : l.length ≤ 200 := by
    rcases Nat.lt_or_ge 200 l.length with h3 | h3
    · rw [List.getElem?_eq_getElem h3] at h2; cases h2
    · exact h3
  rw [Nat.min_eq_left hl] at h1
  exact ⟨hl, h1⟩
/-- Without faults the rules are those of the items. -/
theorem rules_at {L : Nm} {l : List It} (h : faultsP L l = []) {i : Nat} {x : It} (hx : l[i]? = some x) : (rulesP L l)[i]? = some (ruleI L x) ∧ badW L x.2.2.1 = none ∧ (zonesI L x).length ≤ 200 ∧ (faultI L (twiceP l i x) x).1 = 0 := by
  obtain ⟨h1, h2⟩ := faults_short h
  have hi : i < l.length := by
    rcases Nat.lt_or_ge i l.length with h3 | h3
    · exact h3
    · rw [List.getElem?_eq_none h3] at hx; cases hx
  have h0 := faultsTo_none h2 hi hx
  obtain ⟨k1, k2, _⟩ := fault_none h0
  refine ⟨?_, k1, k2, h0⟩
  unfold rulesP
  rw [if_pos h, (rulesTo_at (Nat.le_refl _) hi hx).1, if_pos h0]
theorem rules_len {L : Nm} {l : List It} (h : faultsP L l = []) : (rulesP L l).length = l.length := by
  unfold rulesP
  rw [if_pos h]
  cases l with
  | nil => rfl
  | cons x r => exact (rulesTo_at (i := 0) (x := x) (Nat.le_refl _) (by simp) rfl).2
theorem rules_none {L : Nm} {l : List It} (h : ¬ faultsP L l = []) : rulesP L l = [] := by unfold rulesP; rw [if_neg h]
/-- A rule of the policy comes from an item. -/
theorem rules_of {L : Nm} {l : List It} {i : Nat} {r : Rl} (hr : (rulesP L l)[i]? = some r) : ∃ x, l[i]? = some x ∧ r = ruleI L x ∧ badW L x.2.2.1 = none ∧ (zonesI L x).length ≤ 200 := by
  by_cases h : faultsP L l = []
  · have hi : i < l.length := by
      rw [← rules_len h]
      exact (List.getElem?_eq_some_iff.1 hr).1
    obtain ⟨h1, h2, h3, _⟩ := rules_at h (List.getElem?_eq_getElem hi)
    exact ⟨l[i], List.getElem?_eq_getElem hi, Option.some.inj (hr.symm.trans h1), h2, h3⟩
  · rw [rules_none h] at hr
    simp at hr

/-! ### zones within the limits -/
theorem numP_lt (L : Nm) (t : Ts) : (numP L t).2.1 < 10 := by
  by_cases h : (numP L t).1 = 0
  · exact (num_out h).1
  · revert h
    unfold numP
    split
    · intro _; simp
    · split
      · intro _; simp
      · split
        · intro _; simp
        · split
          · intro _; simp
          · intro h; simp at h
theorem cand_sub {r x : Rg} {op n : Int} (h : x ∈ candP r op n) : r.1 ≤ x.1 ∧ x.2 ≤ r.2 := by
  unfold candP at h
  repeat' split at h
  all_goals simp only [List.mem_cons, List.not_mem_nil, or_false] at h
  all_goals first | (subst h; simp only; omega) | (rcases h with rfl | rfl <;> simp only <;> omega) | exact h.elim
theorem within_sub {r x : Rg} {op n : Int} (h : x ∈ withinP r op n) : r.1 ≤ x.1 ∧ x.2 ≤ r.2 ∧ x.1 ≤ x.2 := by
  unfold withinP at h
  rw [List.mem_filter] at h
  have := cand_sub h.1
  exact ⟨this.1, this.2, by simpa using h.2⟩
theorem atR_set {z : Zn} {a b : Nat} {r : Rg} (ha : a < z.length) : atR (z.set a r) b = if b = a then r else atR z b := by
  unfold atR
  rw [List.getD_eq_getElem?_getD, List.getD_eq_getElem?_getD, List.getElem?_set]
  by_cases h : b = a
  · rw [if_pos h.symm, if_pos h, if_pos ha]; rfl
  · rw [if_neg (fun e => h e.symm), if_neg h]
def okZn (z : Zn) : Prop := z.length = 10 ∧ ∀ a, a < 10 → (atR z a).1 ≤ (atR z a).2 ∧ (atR limZ a).1 ≤ (atR z a).1 ∧ (atR z a).2 ≤ (atR limZ a).2
theorem limZ_ok : okZn limZ := ⟨rfl, by decide⟩
theorem step_ok {z x : Zn} {a : Nat} {op n : Int} (h : okZn z) (ha : a < 10) (hx : x ∈ stepZ z a op n) : okZn x := by
  obtain ⟨hl, hz⟩ := h
  unfold stepZ at hx
  obtain ⟨r, hr, rfl⟩ := List.mem_map.1 hx
  obtain ⟨h1, h2, h3⟩ := within_sub hr
  refine ⟨by rw [List.length_set]; exact hl, fun b hb => ?_⟩
  rw [atR_set (by omega)]
  have := hz b hb
  split
  · rename_i e; subst e; omega
  · exact this
theorem next_ok {L : Nm} {t : Ts} {out : List Zn} (h : ∀ z ∈ out, okZn z) : ∀ z ∈ nextZ L out t, okZn z := by
  intro z hz
  unfold nextZ at hz
  obtain ⟨y, hy, hz⟩ := List.mem_flatMap.1 hz
  exact step_ok (h y hy) (numP_lt L t) hz
theorem fold_ok {L : Nm} : ∀ (l : List Ts) (out : List Zn), (∀ z ∈ out, okZn z) → ∀ z ∈ l.foldl (nextZ L) out, okZn z
  | [], out, h => h
  | t :: l, out, h => fold_ok l (nextZ L out t) (next_ok h)
theorem zonesP_ok (L : Nm) (l : List Ts) : ∀ z ∈ zonesP L l, okZn z := fold_ok l [limZ] (by intro z hz; simp at hz; subst hz; exact limZ_ok)
theorem zonesI_ok (L : Nm) (x : It) : ∀ z ∈ zonesI L x, okZn z := by
  intro z hz
  unfold zonesI at hz
  split at hz
  · simp at hz; subst hz; exact limZ_ok
  · obtain ⟨l, _, hz⟩ := List.mem_flatMap.1 hz
    exact zonesP_ok L l z hz

/-! ### zones apart -/
def apart (x y : Rg) : Prop := min x.2 y.2 < max x.1 y.1
def disj (x y : Zn) : Prop := ∃ a, a < 10 ∧ apart (atR x a) (atR y a)
theorem cand_apart (r : Rg) (op n : Int) : (candP r op n).Pairwise apart := by
  unfold candP
  repeat' split
  all_goals simp [apart]
  all_goals omega
theorem step_apart {z : Zn} {a : Nat} {op n : Int} (hz : z.length = 10) (ha : a < 10) : (stepZ z a op n).Pairwise disj := by
  unfold stepZ
  rw [List.pairwise_map]
  refine ((cand_apart (atR z a) op n).filter _).imp fun {r s} h => ⟨a, ha, ?_⟩
  rw [atR_set (by omega), atR_set (by omega), if_pos rfl, if_pos rfl]
  exact h
theorem next_apart {L : Nm} {t : Ts} {out : List Zn} (h : ∀ z ∈ out, okZn z) (hp : out.Pairwise disj) : (nextZ L out t).Pairwise disj := by
  unfold nextZ
  rw [List.pairwise_flatMap]
  have ha := numP_lt L t
  refine ⟨fun z hz => step_apart (h z hz).1 ha, ?_⟩
  refine List.Pairwise.imp_of_mem (fun {x y} hx hy hd => ?_) hp
  intro x' hx' y' hy'
  unfold stepZ at hx' hy'
  obtain ⟨r, hr, rfl⟩ := List.mem_map.1 hx'
  obtain ⟨s, hs, rfl⟩ := List.mem_map.1 hy'
  obtain ⟨b, hb, hd⟩ := hd
  refine ⟨b, hb, ?_⟩
  rw [atR_set (by have := (h x hx).1; omega), atR_set (by have := (h y hy).1; omega)]
  split
  · rename_i e
    have h1 := within_sub hr
    have h2 := within_sub hs
    subst e
    unfold apart at hd ⊢
    omega
  · exact hd
theorem fold_apart {L : Nm} : ∀ (l : List Ts) (out : List Zn), (∀ z ∈ out, okZn z) → out.Pairwise disj → (l.foldl (nextZ L) out).Pairwise disj
  | [], out, _, h => h
  | t :: l, out, ho, h => fold_apart l (nextZ L out t) (next_ok ho) (next_apart ho h)
theorem zonesP_apart (L : Nm) (l : List Ts) : (zonesP L l).Pairwise disj := fold_apart l [limZ] (by intro z hz; simp at hz; subst hz; exact limZ_ok) (by simp)
def meetB (x y : Zn) : Bool := (List.range 10).all fun a => decide (max (atR x a).1 (atR y a).1 ≤ min (atR x a).2 (atR y a).2)
theorem meet_no {x y : Zn} (h : disj x y) : meetB y x = false := by
  obtain ⟨a, ha, h⟩ := h
  cases hm : meetB y x with
  | false => rfl
  | true =>
    unfold meetB at hm
    rw [List.all_eq_true] at hm
    have := hm a (by simpa using ha)
    simp only [decide_eq_true_eq] at this
    unfold apart at h
    omega
/-- The zones of an item with one alternative do not meet. -/
theorem meet_one {L : Nm} {x : It} (h1 : x.2.2.1.length = 1) {n k : Nat} (hnk : n < k) {y z : Zn} (hy : (zonesI L x)[n]? = some y) (hz : (zonesI L x)[k]? = some z) : meetB z y = false := by
  obtain ⟨l, hl⟩ : ∃ l, x.2.2.1 = [l] := by
    match h : x.2.2.1, h1 with
    | [l], _ => exact ⟨l, rfl⟩
  have e : zonesI L x = zonesP L l := by unfold zonesI; rw [hl]; simp
  rw [e] at hy hz
  have hp := zonesP_apart L l
  rw [List.pairwise_iff_getElem] at hp
  obtain ⟨h2, rfl⟩ := List.getElem?_eq_some_iff.1 hy
  obtain ⟨h3, rfl⟩ := List.getElem?_eq_some_iff.1 hz
  exact meet_no (hp n k h2 h3 hnk)
end Go.Proofs.Ytecjhniomjmocaa
