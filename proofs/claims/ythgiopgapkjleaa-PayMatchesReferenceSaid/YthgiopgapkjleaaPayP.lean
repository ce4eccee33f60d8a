/- Layer 28 (pay), in plain numbers: a payment as a machine, and what its steps keep; no program is named here. -/
namespace Go.Proofs.Ythgiopgapkjleaa
set_option linter.unusedVariables false
set_option linter.unusedSimpArgs false

/-- A payment: the time, until when, the total, how many attempts, the state (1 open, 2 done, 3 failed, 4 late), what is owed, the answers. -/
structure PayS where
  now : Int
  till : Int
  total : Int
  asked : Int
  state : Int
  owed : Int
  ans : Int → Option Bool

def setA (f : Int → Option Bool) (c : Int) (v : Bool) : Int → Option Bool := fun x => if x = c then some v else f x
def tickB (now : Int) : Bool := decide (0 ≤ now) && decide (now ≤ 1000000000)
def passS (s : PayS) (now : Int) : PayS := { s with now := max s.now now, state := if s.state = 1 ∧ s.till < max s.now now then 3 else s.state }
/-- What Ask does; its number; its error. -/
def askS (s : PayS) (now : Int) : PayS × Int × Int :=
  if tickB now then
    if (passS s now).state = 3 then (passS s now, 0, 17)
    else if (passS s now).state ≠ 1 then (passS s now, 0, 12)
    else if (passS s now).asked = 100 then (passS s now, 0, 3)
    else ({ passS s now with asked := (passS s now).asked + 1 }, (passS s now).asked + 1, 0)
  else (s, 0, 1)
def payS (s : PayS) : PayS :=
  if s.state = 1 then { s with state := 2 } else { s with owed := s.owed + s.total, state := if s.state = 3 then 4 else s.state }
/-- What an answer does that is taken. -/
def tookS (s : PayS) (at' : Int) (yes : Bool) : PayS :=
  if yes = true ∧ s.ans at' = none then payS { s with ans := setA s.ans at' yes } else { s with ans := setA s.ans at' yes }
def ansS (s : PayS) (at' : Int) (yes : Bool) (now : Int) : PayS × Int × Int :=
  if tickB now then
    if at' < 1 ∨ s.asked < at' then (passS s now, 0, 11)
    else if s.ans at' = some (!yes) then (passS s now, 0, 9)
    else (tookS (passS s now) at' yes, (tookS (passS s now) at' yes).state, 0)
  else (s, 0, 1)
/-- An operation: the attempt (0: ask), the answer, the time. -/
abbrev OpS := Int × Bool × Int
def stepS (s : PayS) (o : OpS) : PayS × Int × Int := if o.1 = 0 then askS s o.2.2 else ansS s o.1 o.2.1 o.2.2

theorem tickB_out {n : Int} (h : tickB n = true) : 0 ≤ n ∧ n ≤ 1000000000 := by simpa [tickB] using h
theorem tickB_no {n : Int} (h : tickB n = false) : n < 0 ∨ 1000000000 < n := by
  simp only [tickB, Bool.and_eq_false_iff, decide_eq_false_iff_not] at h; omega

/-- What holds of every payment. -/
structure PayOK (s : PayS) : Prop where
  now0 : 0 ≤ s.now
  now1 : s.now ≤ 1000000000
  till0 : 0 ≤ s.till
  till1 : s.till ≤ 1000000000
  asked0 : 0 ≤ s.asked
  asked1 : s.asked ≤ 100
  state0 : 1 ≤ s.state
  state1 : s.state ≤ 4
  late : s.state = 3 → s.till < s.now
  open_ : s.state = 1 → s.now ≤ s.till
  far : ∀ x, s.ans x ≠ none → 1 ≤ x ∧ x ≤ s.asked

theorem PayOK.pass {s : PayS} (h : PayOK s) {now : Int} (ht : tickB now = true) : PayOK (passS s now) := by
  obtain ⟨a1, a2⟩ := tickB_out ht
  obtain ⟨h1, h2, h3, h4, h5, h6, h7, h8, h9, h10, h11⟩ := h
  constructor
  all_goals simp only [passS]
  all_goals first | exact h11 | exact h5 | exact h6 | omega | (split <;> omega)
theorem passS_twice (s : PayS) (now : Int) : passS (passS s now) now = passS s now := by
  unfold passS
  simp only [PayS.mk.injEq, and_true, true_and]
  refine ⟨by omega, ?_⟩
  split <;> split <;> omega
theorem payS_ans (s : PayS) : (payS s).ans = s.ans := by unfold payS; split <;> rfl
theorem payS_now (s : PayS) : (payS s).now = s.now ∧ (payS s).till = s.till ∧ (payS s).asked = s.asked ∧ (payS s).total = s.total := by unfold payS; split <;> exact ⟨rfl, rfl, rfl, rfl⟩
theorem payS_state (s : PayS) : (payS s).state = if s.state = 1 then 2 else if s.state = 3 then 4 else s.state := by
  unfold payS; split <;> rfl
theorem tookS_same (s : PayS) (a : Int) (y : Bool) : (tookS s a y).now = s.now ∧ (tookS s a y).till = s.till ∧ (tookS s a y).asked = s.asked ∧ (tookS s a y).total = s.total ∧ (tookS s a y).ans = setA s.ans a y := by
  unfold tookS
  split
  · have h := payS_now { s with ans := setA s.ans a y }
    exact ⟨h.1, h.2.1, h.2.2.1, h.2.2.2, payS_ans _⟩
  · exact ⟨rfl, rfl, rfl, rfl, rfl⟩
theorem tookS_state (s : PayS) (a : Int) (y : Bool) : (tookS s a y).state = if y = true ∧ s.ans a = none then (if s.state = 1 then 2 else if s.state = 3 then 4 else s.state) else s.state := by
  unfold tookS
  split
  · exact payS_state _
  · rfl
theorem payS_owed (s : PayS) : (payS s).owed = if s.state = 1 then s.owed else s.owed + s.total := by unfold payS; split <;> rfl
theorem tookS_owed (s : PayS) (a : Int) (y : Bool) : (tookS s a y).owed = if y = true ∧ s.ans a = none ∧ s.state ≠ 1 then s.owed + s.total else s.owed := by
  unfold tookS
  by_cases h : y = true ∧ s.ans a = none
  · rw [if_pos h, payS_owed]
    by_cases h1 : s.state = 1
    · rw [if_pos h1, if_neg (fun h' => h'.2.2 h1)]
    · rw [if_neg h1, if_pos ⟨h.1, h.2, h1⟩]
  · rw [if_neg h, if_neg (fun h' => h ⟨h'.1, h'.2.1⟩)]
theorem tookS_cases (s : PayS) (a : Int) (y : Bool) : (tookS s a y).state = s.state ∨ (s.state = 1 ∧ (tookS s a y).state = 2) ∨ (s.state = 3 ∧ (tookS s a y).state = 4) := by
  rw [tookS_state]
  split
  · split
    · exact .inr (.inl ⟨by assumption, rfl⟩)
    · split
      · exact .inr (.inr ⟨by assumption, rfl⟩)
      · exact .inl rfl
  · exact .inl rfl
theorem PayOK.took {s : PayS} (h : PayOK s) {a : Int} (h1 : 1 ≤ a) (h2 : a ≤ s.asked) (y : Bool) : PayOK (tookS s a y) := by
  obtain ⟨e1, e2, e3, e4, e5⟩ := tookS_same s a y
  have es := tookS_cases s a y
  obtain ⟨g1, g2, g3, g4, g5, g6, g7, g8, g9, g10, g11⟩ := h
  refine ⟨by rw [e1]; exact g1, by rw [e1]; exact g2, by rw [e2]; exact g3, by rw [e2]; exact g4, by rw [e3]; exact g5, by rw [e3]; exact g6, by omega, by omega, fun h => ?_, fun h => ?_, fun x hx => ?_⟩
  · rw [e1, e2]; exact g9 (by omega)
  · rw [e1, e2]; exact g10 (by omega)
  · rw [e5] at hx
    rw [e3]
    unfold setA at hx
    by_cases hxa : x = a
    · subst hxa; exact ⟨h1, h2⟩
    · rw [if_neg hxa] at hx
      exact g11 x hx
theorem PayOK.ask {s : PayS} (h : PayOK s) (now : Int) : PayOK (askS s now).1 := by
  unfold askS
  split
  · rename_i ht
    have hp := h.pass ht
    split
    · exact hp
    · split
      · exact hp
      · split
        · exact hp
        · obtain ⟨g1, g2, g3, g4, g5, g6, g7, g8, g9, g10, g11⟩ := hp
          exact ⟨g1, g2, g3, g4, by show 0 ≤ _ + 1; omega, by show _ + 1 ≤ 100; omega, g7, g8, g9, g10, fun x hx => by have := g11 x hx; exact ⟨this.1, by show x ≤ _ + 1; omega⟩⟩
  · exact h
theorem passS_same (s : PayS) (now : Int) : (passS s now).asked = s.asked ∧ (passS s now).ans = s.ans ∧ (passS s now).total = s.total ∧ (passS s now).owed = s.owed ∧ (passS s now).till = s.till := ⟨rfl, rfl, rfl, rfl, rfl⟩
theorem PayOK.answer {s : PayS} (h : PayOK s) (a : Int) (y : Bool) (now : Int) : PayOK (ansS s a y now).1 := by
  unfold ansS
  split
  · rename_i ht
    have hp := h.pass ht
    split
    · exact hp
    · rename_i hr
      split
      · exact hp
      · exact hp.took (by omega) (by show a ≤ s.asked; omega) y
  · exact h
theorem PayOK.step {s : PayS} (h : PayOK s) (o : OpS) : PayOK (stepS s o).1 := by
  unfold stepS
  split
  · exact h.ask _
  · exact h.answer _ _ _
theorem stepS_total (s : PayS) (o : OpS) : (stepS s o).1.total = s.total ∧ (stepS s o).1.till = s.till := by
  unfold stepS askS ansS
  split
  · split
    · split
      · exact ⟨rfl, rfl⟩
      · split
        · exact ⟨rfl, rfl⟩
        · split <;> exact ⟨rfl, rfl⟩
    · exact ⟨rfl, rfl⟩
  · split
    · split
      · exact ⟨rfl, rfl⟩
      · split
        · exact ⟨rfl, rfl⟩
        · have h := tookS_same (passS s o.2.2) o.1 o.2.1
          exact ⟨h.2.2.2.1, h.2.1⟩
    · exact ⟨rfl, rfl⟩
end Go.Proofs.Ythgiopgapkjleaa
