/- Layer 28 (pay), in plain numbers: what each step does, law by law; no program is named here. -/
import Derived.Test.YthgiopgapkjleaaPayP
namespace Go.Proofs.Ythgiopgapkjleaa
set_option linter.unusedVariables false
set_option linter.unusedSimpArgs false

theorem passS_state (s : PayS) (now : Int) : (passS s now).state = s.state ∨ (s.state = 1 ∧ (passS s now).state = 3) := by
  unfold passS
  show (if s.state = 1 ∧ s.till < max s.now now then 3 else s.state) = s.state ∨ (s.state = 1 ∧ (if s.state = 1 ∧ s.till < max s.now now then 3 else s.state) = 3)
  split
  · rename_i h; exact .inr ⟨h.1, rfl⟩
  · exact .inl rfl

/-- What Ask does, case by case. -/
theorem ask_cases (s : PayS) (now : Int) : (tickB now = false ∧ askS s now = (s, 0, 1)) ∨ (tickB now = true ∧ (passS s now).state = 3 ∧ askS s now = (passS s now, 0, 17)) ∨ (tickB now = true ∧ (passS s now).state ≠ 3 ∧ (passS s now).state ≠ 1 ∧ askS s now = (passS s now, 0, 12)) ∨
    (tickB now = true ∧ (passS s now).state = 1 ∧ s.asked = 100 ∧ askS s now = (passS s now, 0, 3)) ∨ (tickB now = true ∧ (passS s now).state = 1 ∧ s.asked ≠ 100 ∧ askS s now = ({ passS s now with asked := s.asked + 1 }, s.asked + 1, 0)) := by
  unfold askS
  by_cases ht : tickB now = true
  · rw [if_pos ht]
    by_cases h3 : (passS s now).state = 3
    · rw [if_pos h3]; exact .inr (.inl ⟨ht, h3, rfl⟩)
    · rw [if_neg h3]
      by_cases h1 : (passS s now).state = 1
      · rw [if_neg (by simp [h1])]
        by_cases h100 : s.asked = 100
        · rw [if_pos (show (passS s now).asked = 100 from h100)]; exact .inr (.inr (.inr (.inl ⟨ht, h1, h100, rfl⟩)))
        · rw [if_neg (show ¬ (passS s now).asked = 100 from h100)]; exact .inr (.inr (.inr (.inr ⟨ht, h1, h100, rfl⟩)))
      · rw [if_pos h1]; exact .inr (.inr (.inl ⟨ht, h3, h1, rfl⟩))
  · rw [if_neg ht]; exact .inl ⟨by simpa using ht, rfl⟩

/-- What an answer does, case by case. -/
theorem ans_cases (s : PayS) (a : Int) (y : Bool) (now : Int) : (tickB now = false ∧ ansS s a y now = (s, 0, 1)) ∨ (tickB now = true ∧ (a < 1 ∨ s.asked < a) ∧ ansS s a y now = (passS s now, 0, 11)) ∨
    (tickB now = true ∧ 1 ≤ a ∧ a ≤ s.asked ∧ s.ans a = some (!y) ∧ ansS s a y now = (passS s now, 0, 9)) ∨ (tickB now = true ∧ 1 ≤ a ∧ a ≤ s.asked ∧ s.ans a ≠ some (!y) ∧ ansS s a y now = (tookS (passS s now) a y, (tookS (passS s now) a y).state, 0)) := by
  unfold ansS
  by_cases ht : tickB now = true
  · rw [if_pos ht]
    by_cases hr : a < 1 ∨ s.asked < a
    · rw [if_pos hr]; exact .inr (.inl ⟨ht, hr, rfl⟩)
    · rw [if_neg hr]
      by_cases hs : s.ans a = some (!y)
      · rw [if_pos hs]; exact .inr (.inr (.inl ⟨ht, by omega, by omega, hs, rfl⟩))
      · rw [if_neg hs]; exact .inr (.inr (.inr ⟨ht, by omega, by omega, hs, rfl⟩))
  · rw [if_neg ht]; exact .inl ⟨by simpa using ht, rfl⟩

/-- PayStates: what a step may do to the state, and to what is owed. -/
theorem step_states (s : PayS) (o : OpS) (h : PayOK s) : ((stepS s o).1.state = s.state ∨ s.state = 1 ∨ (s.state = 3 ∧ (stepS s o).1.state = 4)) ∧
    ((o.1 = 0 ∨ o.2.1 = false ∨ (stepS s o).2.2 ≠ 0) → (stepS s o).1.owed = s.owed ∧ ((stepS s o).1.state = s.state ∨ (stepS s o).1.state = 3)) ∧ (o.1 ≠ 0 → (stepS s o).2.2 = 0 → (stepS s o).2.1 = (stepS s o).1.state) := by
  obtain ⟨a, y, now⟩ := o
  unfold stepS
  have hp := passS_state s now
  by_cases h0 : a = 0
  · rw [if_pos h0]
    rcases ask_cases s now with ⟨_, e⟩ | ⟨_, _, e⟩ | ⟨_, _, _, e⟩ | ⟨_, _, _, e⟩ | ⟨_, _, _, e⟩
    · rw [e]; exact ⟨.inl rfl, fun _ => ⟨rfl, .inl rfl⟩, fun _ h => by cases h⟩
    · simp only [e]; exact ⟨by omega, fun _ => ⟨rfl, by omega⟩, fun _ h => by cases h⟩
    · simp only [e]; exact ⟨by omega, fun _ => ⟨rfl, by omega⟩, fun _ h => by cases h⟩
    · simp only [e]; exact ⟨by omega, fun _ => ⟨rfl, by omega⟩, fun _ h => by cases h⟩
    · simp only [e]; exact ⟨by omega, fun _ => ⟨rfl, by omega⟩, fun h1 => absurd h0 h1⟩
  · rw [if_neg h0]
    rcases ans_cases s a y now with ⟨_, e⟩ | ⟨_, _, e⟩ | ⟨_, _, _, _, e⟩ | ⟨_, _, _, _, e⟩
    · rw [e]; exact ⟨.inl rfl, fun _ => ⟨rfl, .inl rfl⟩, fun _ h => by cases h⟩
    · simp only [e]; exact ⟨by omega, fun _ => ⟨rfl, by omega⟩, fun _ h => by cases h⟩
    · simp only [e]; exact ⟨by omega, fun _ => ⟨rfl, by omega⟩, fun _ h => by cases h⟩
    · simp only [e]
      have ht := tookS_cases (passS s now) a y
      refine ⟨by omega, fun hq => ?_, fun _ _ => trivial⟩
      have hy : y = false := by rcases hq with h1 | h1 | h1; exact absurd h1 h0; exact h1; exact absurd rfl h1
      subst hy
      have e1 : (tookS (passS s now) a false).owed = (passS s now).owed := by rw [tookS_owed]; simp
      have e2 : (tookS (passS s now) a false).state = (passS s now).state := by rw [tookS_state]; simp
      exact ⟨e1, by omega⟩

theorem setA_twice (f : Int → Option Bool) (c : Int) (v : Bool) : setA (setA f c v) c v = setA f c v := by
  funext x
  unfold setA
  by_cases h : x = c
  · rw [if_pos h, if_pos h]
  · rw [if_neg h, if_neg h]

/-- PayAgain: an answer given twice. -/
theorem ans_twice (s : PayS) (a : Int) (y : Bool) (now : Int) : ansS (ansS s a y now).1 a y now = ansS s a y now := by
  rcases ans_cases s a y now with ⟨ht, e⟩ | ⟨ht, hr, e⟩ | ⟨ht, h1, h2, hs, e⟩ | ⟨ht, h1, h2, hs, e⟩
  · rw [e, e]
  · rw [e]
    show ansS (passS s now) a y now = _
    unfold ansS
    rw [if_pos ht, if_pos (show a < 1 ∨ (passS s now).asked < a from hr), passS_twice]
  · rw [e]
    show ansS (passS s now) a y now = _
    unfold ansS
    rw [if_pos ht, if_neg (show ¬ (a < 1 ∨ (passS s now).asked < a) from by show ¬ (a < 1 ∨ s.asked < a); omega), if_pos (show (passS s now).ans a = _ from hs), passS_twice]
  · rw [e]
    obtain ⟨e1, e2, e3, e4, e5⟩ := tookS_same (passS s now) a y
    have hst := tookS_cases (passS s now) a y
    have hA : (tookS (passS s now) a y).ans a = some y := by rw [e5]; unfold setA; rw [if_pos rfl]
    have hpass : passS (tookS (passS s now) a y) now = tookS (passS s now) a y := by
      have hn : (passS s now).now = max s.now now := rfl
      have hs1 : (passS s now).state = 1 → ¬ s.till < max s.now now := by
        unfold passS
        show (if s.state = 1 ∧ s.till < max s.now now then 3 else s.state) = 1 → _
        split
        · intro h; omega
        · rename_i h'; intro h hlt; exact h' ⟨h, hlt⟩
      have ht2 : (tookS (passS s now) a y).till = s.till := e2
      generalize htk : tookS (passS s now) a y = T at *
      cases T
      simp only at e1 e2 e3 e4 e5 hst hA ht2
      unfold passS
      simp only [PayS.mk.injEq, and_true, true_and]
      refine ⟨by omega, ?_⟩
      split
      · rename_i h; have := hs1 (by omega); omega
      · rfl
    show ansS (tookS (passS s now) a y) a y now = _
    unfold ansS
    rw [if_pos ht, hpass, if_neg (by rw [e3]; show ¬ (a < 1 ∨ s.asked < a); omega), if_neg (by rw [hA]; cases y <;> simp)]
    have hsame : tookS (tookS (passS s now) a y) a y = tookS (passS s now) a y := by
      have : tookS (tookS (passS s now) a y) a y = { tookS (passS s now) a y with ans := setA (tookS (passS s now) a y).ans a y } := by
        rw [tookS, if_neg (by rw [hA]; simp)]
      rw [this, e5, setA_twice, ← e5]
    rw [hsame]

/-- PayMoney: m attempts were answered by yes. -/
def MoneyI (s : PayS) (m : Int) : Prop := s.owed + (if s.state = 2 then s.total else 0) = m * s.total
theorem money_pass {s : PayS} {m : Int} (h : MoneyI s m) (now : Int) : MoneyI (passS s now) m := by
  unfold MoneyI at *
  have hs := passS_state s now
  have e : (passS s now).owed = s.owed := rfl
  have e' : (passS s now).total = s.total := rfl
  rw [e, e', ← h]
  rcases hs with hs | ⟨h1, h2⟩
  · rw [hs]
  · rw [h2, h1]; simp
theorem money_took {s : PayS} {m : Int} (h : MoneyI s m) (a : Int) (y : Bool) : MoneyI (tookS s a y) (if y = true ∧ s.ans a = none then m + 1 else m) := by
  unfold MoneyI at *
  rw [tookS_owed, tookS_state, (tookS_same s a y).2.2.2.1]
  by_cases hy : y = true ∧ s.ans a = none
  · rw [if_pos hy, if_pos hy, Int.add_mul, Int.one_mul, ← h]
    by_cases h1 : s.state = 1
    · rw [if_pos h1, if_neg (fun h' => h'.2.2 h1)]
      simp [h1]
    · rw [if_neg h1, if_pos ⟨hy.1, hy.2, h1⟩]
      by_cases h3 : s.state = 3
      · simp [h3]
      · rw [if_neg h3]; omega
  · rw [if_neg hy, if_neg hy, if_neg (fun h' => hy ⟨h'.1, h'.2.1⟩), h]
end Go.Proofs.Ythgiopgapkjleaa
