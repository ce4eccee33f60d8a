/- Layer 28 (pay), in plain numbers: times and attempts; no program is named here. -/
import Derived.Test.YthgiopgapkjleaaPayQ
namespace Go.Proofs.Ythgiopgapkjleaa
set_option linter.unusedVariables false
set_option linter.unusedSimpArgs false

/-- PayAttempts: what a step does to the number of attempts. -/
theorem step_attempts (s : PayS) (o : OpS) (h : PayOK s) :
    (o.1 = 0 → ((stepS s o).2.2 = 0 → (stepS s o).2.1 = s.asked + 1 ∧ (stepS s o).1.asked = s.asked + 1 ∧ (stepS s o).1.state = 1 ∧ s.asked + 1 ≤ 100) ∧ ((stepS s o).2.2 = 3 → s.asked = 100) ∧ ((stepS s o).2.2 ≠ 0 → (stepS s o).2.1 = 0 ∧ (stepS s o).1.asked = s.asked)) ∧
    (o.1 ≠ 0 → (stepS s o).1.asked = s.asked ∧ ((o.1 < 0 ∨ s.asked < o.1) → (stepS s o).2.2 = 11 ∨ (stepS s o).2.2 = 1)) := by
  obtain ⟨a, y, now⟩ := o
  unfold stepS
  have hb := h.asked1
  by_cases h0 : a = 0
  · rw [if_pos h0]
    refine ⟨fun _ => ?_, fun h => absurd h0 h⟩
    rcases ask_cases s now with ⟨_, e⟩ | ⟨_, _, e⟩ | ⟨_, _, _, e⟩ | ⟨_, _, h100, e⟩ | ⟨_, h1, h100, e⟩
    · rw [e]; exact ⟨(fun h => by cases h), (fun h => by cases h), fun _ => ⟨rfl, rfl⟩⟩
    · rw [e]; exact ⟨(fun h => by cases h), (fun h => by cases h), fun _ => ⟨rfl, rfl⟩⟩
    · rw [e]; exact ⟨(fun h => by cases h), (fun h => by cases h), fun _ => ⟨rfl, rfl⟩⟩
    · rw [e]; exact ⟨(fun h => by cases h), fun _ => h100, fun _ => ⟨rfl, rfl⟩⟩
    · rw [e]; exact ⟨(fun _ => ⟨rfl, rfl, h1, by omega⟩), (fun h => by cases h), fun h => absurd rfl h⟩
  · rw [if_neg h0]
    refine ⟨fun h => absurd h h0, fun _ => ?_⟩
    rcases ans_cases s a y now with ⟨_, e⟩ | ⟨_, _, e⟩ | ⟨_, h1, h2, _, e⟩ | ⟨_, h1, h2, _, e⟩
    · rw [e]; exact ⟨rfl, fun _ => .inr rfl⟩
    · rw [e]; exact ⟨rfl, fun _ => .inl rfl⟩
    · rw [e]; exact ⟨rfl, (fun hr => by simp only at hr; omega)⟩
    · rw [e]; exact ⟨(tookS_same (passS s now) a y).2.2.1, fun hr => by simp only at hr; omega⟩

/-- A payment to whose attempts no yes has come. -/
structure NoYes (s : PayS) : Prop where
  ans : ∀ x, s.ans x ≠ some true
  owed : s.owed = 0
  state : s.state = if s.till < s.now then 3 else 1

theorem NoYes.pass {s : PayS} (h : NoYes s) (now : Int) : NoYes (passS s now) := by
  refine ⟨h.ans, h.owed, ?_⟩
  have hs := h.state
  show (if s.state = 1 ∧ s.till < max s.now now then 3 else s.state) = if s.till < max s.now now then 3 else 1
  by_cases h1 : s.till < s.now
  · rw [if_pos h1] at hs
    rw [if_neg (by omega), hs, if_pos (by omega)]
  · rw [if_neg h1] at hs
    by_cases h2 : s.till < max s.now now
    · rw [if_pos ⟨hs, h2⟩, if_pos h2]
    · rw [if_neg (fun h => h2 h.2), hs, if_neg h2]

/-- The time behind an operation. -/
def nowS (now : Int) (o : OpS) : Int := if tickB o.2.2 then max now o.2.2 else now
theorem step_now (s : PayS) (o : OpS) : (stepS s o).1.now = nowS s.now o := by
  obtain ⟨a, y, now⟩ := o
  unfold stepS nowS
  by_cases h0 : a = 0
  · rw [if_pos h0]
    rcases ask_cases s now with ⟨ht, e⟩ | ⟨ht, _, e⟩ | ⟨ht, _, _, e⟩ | ⟨ht, _, _, e⟩ | ⟨ht, _, _, e⟩ <;> rw [e] <;> simp only [ht, if_true, Bool.false_eq_true, if_false] <;> rfl
  · rw [if_neg h0]
    rcases ans_cases s a y now with ⟨ht, e⟩ | ⟨ht, _, e⟩ | ⟨ht, _, _, _, e⟩ | ⟨ht, _, _, _, e⟩
    · rw [e]; simp only [ht, Bool.false_eq_true, if_false]
    · rw [e]; simp only [ht, if_true]; rfl
    · rw [e]; simp only [ht, if_true]; rfl
    · rw [e]; simp only [ht, if_true]; exact (tookS_same (passS s now) a y).1

/-- PayTimes: the first yes decides; before it the state is the time's. -/
theorem step_times (s : PayS) (o : OpS) (h : NoYes s) (ht : s.total ≠ 0) :
    ((o.1 ≠ 0 ∧ o.2.1 = true ∧ (stepS s o).2.2 = 0) → ((stepS s o).2.1 = 2 ↔ (stepS s o).1.now ≤ s.till) ∧ ((stepS s o).2.1 = 4 ↔ s.till < (stepS s o).1.now) ∧ ((stepS s o).1.owed = 0 ↔ (stepS s o).2.1 = 2)) ∧
    (¬ (o.1 ≠ 0 ∧ o.2.1 = true ∧ (stepS s o).2.2 = 0) → NoYes (stepS s o).1) := by
  obtain ⟨a, y, now⟩ := o
  unfold stepS
  have hp := h.pass now
  by_cases h0 : a = 0
  · rw [if_pos h0]
    refine ⟨fun h => absurd h0 h.1, fun _ => ?_⟩
    rcases ask_cases s now with ⟨_, e⟩ | ⟨_, _, e⟩ | ⟨_, _, _, e⟩ | ⟨_, _, _, e⟩ | ⟨_, _, _, e⟩
    · rw [e]; exact h
    · rw [e]; exact hp
    · rw [e]; exact hp
    · rw [e]; exact hp
    · rw [e]; exact ⟨hp.ans, hp.owed, hp.state⟩
  · rw [if_neg h0]
    rcases ans_cases s a y now with ⟨_, e⟩ | ⟨_, _, e⟩ | ⟨_, h1, h2, _, e⟩ | ⟨_, h1, h2, hn, e⟩
    · rw [e]; exact ⟨(fun h => by cases h.2.2), fun _ => h⟩
    · rw [e]; exact ⟨(fun h => by cases h.2.2), fun _ => hp⟩
    · rw [e]; exact ⟨(fun h => by cases h.2.2), fun _ => hp⟩
    · rw [e]
      obtain ⟨e1, e2, e3, e4, e5⟩ := tookS_same (passS s now) a y
      have es := tookS_state (passS s now) a y
      have eo := tookS_owed (passS s now) a y
      have hst := hp.state
      have htl : (passS s now).till = s.till := rfl
      refine ⟨fun hy => ?_, fun hy => ?_⟩
      · obtain ⟨_, rfl, _⟩ := hy
        have hnone : (passS s now).ans a = none := by
          have h3 := h.ans a
          show s.ans a = none
          cases hv : s.ans a with
          | none => rfl
          | some v =>
            exfalso
            cases v
            · exact hn (by rw [hv]; rfl)
            · exact h3 hv
        rw [if_pos ⟨rfl, hnone⟩] at es
        simp only
        rw [e1, es, eo, hst, htl, hp.owed, show (passS s now).total = s.total from rfl]
        by_cases hlt : s.till < (passS s now).now
        · rw [if_pos hlt]
          simp only [hnone, if_true]
          refine ⟨⟨(fun h => by cases h), (fun h => by omega)⟩, ⟨(fun _ => hlt), (fun _ => by simp)⟩, ?_⟩
          simp; exact ht
        · rw [if_neg hlt]
          simp only [hnone, if_true]
          refine ⟨⟨(fun _ => by omega), (fun _ => by simp)⟩, ⟨(fun h => by cases h), (fun h => by omega)⟩, ?_⟩
          simp
      · have hyf : y = false := by
          cases y
          · rfl
          · exact absurd ⟨h0, rfl, rfl⟩ hy
        subst hyf
        rw [if_neg (by simp)] at es
        rw [if_neg (by simp)] at eo
        refine ⟨fun x hx => ?_, by simp only; rw [eo]; exact hp.owed, by simp only; rw [es, e1, e2]; exact hst⟩
        simp only at hx
        rw [e5] at hx
        unfold setA at hx
        by_cases hxa : x = a
        · rw [if_pos hxa] at hx; cases hx
        · rw [if_neg hxa] at hx; exact hp.ans x hx
end Go.Proofs.Ythgiopgapkjleaa
