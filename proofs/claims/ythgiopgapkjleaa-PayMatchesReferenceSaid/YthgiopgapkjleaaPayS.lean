/- Layer 28 (pay), in plain numbers: the reference's machine, and that it does what the other one does; no program is named here. -/
import Derived.Test.YthgiopgapkjleaaPayR
namespace Go.Proofs.Ythgiopgapkjleaa
set_option linter.unusedVariables false
set_option linter.unusedSimpArgs false

structure RefS where
  total : Int
  till : Int
  now : Int
  answers : List Int
  yes : List Int

def doneR (r : RefS) : Bool := match r.yes with | [] => false | t :: _ => decide (t ≤ r.till)
def stateR (r : RefS) : Int := if doneR r then 2 else if r.yes ≠ [] then 4 else if r.till < r.now then 3 else 1
def owedR (r : RefS) : Int := ((r.yes.length : Int) - (if doneR r then 1 else 0)) * r.total
def passR (r : RefS) (now : Int) : RefS := { r with now := max r.now now }
def askR (r : RefS) (now : Int) : RefS × Int × Int :=
  if tickB now then
    if stateR (passR r now) = 2 ∨ stateR (passR r now) = 4 then (passR r now, 0, 12)
    else if stateR (passR r now) = 3 then (passR r now, 0, 17)
    else if r.answers.length = 100 then (passR r now, 0, 3)
    else ({ passR r now with answers := r.answers ++ [0] }, r.answers.length + 1, 0)
  else (r, 0, 1)
def encA : Option Bool → Int
  | none => 0
  | some true => 1
  | some false => 2
/-- What an answer does that is taken. -/
def tookR (r : RefS) (a : Nat) (y : Bool) : RefS := { r with answers := r.answers.set a (encA (some y)), yes := if y then r.yes ++ [r.now] else r.yes }
def ansR (r : RefS) (a : Int) (y : Bool) (now : Int) : RefS × Int × Int :=
  if tickB now then
    if a < 1 ∨ (r.answers.length : Int) < a then (passR r now, 0, 11)
    else if r.answers.getD (a - 1).toNat 0 ≠ 0 ∧ r.answers.getD (a - 1).toNat 0 ≠ encA (some y) then (passR r now, 0, 9)
    else if r.answers.getD (a - 1).toNat 0 = 0 then (tookR (passR r now) (a - 1).toNat y, stateR (tookR (passR r now) (a - 1).toNat y), 0)
    else (passR r now, stateR (passR r now), 0)
  else (r, 0, 1)
def stepR (r : RefS) (o : OpS) : RefS × Int × Int := if o.1 = 0 then askR r o.2.2 else ansR r o.1 o.2.1 o.2.2

structure SimP (s : PayS) (r : RefS) : Prop where
  now : s.now = r.now
  till : s.till = r.till
  total : s.total = r.total
  asked : s.asked = r.answers.length
  ans : ∀ i : Nat, i < r.answers.length → r.answers[i]? = some (encA (s.ans (i + 1)))
  state : s.state = stateR r
  owed : s.owed = owedR r

theorem encA_inj {x y : Option Bool} (h : encA x = encA y) : x = y := by
  cases x with
  | none => cases y with
    | none => rfl
    | some b => cases b <;> cases h
  | some a => cases y with
    | none => cases a <;> cases h
    | some b => cases a <;> cases b <;> first | rfl | cases h

theorem SimP.pass {s : PayS} {r : RefS} (h : SimP s r) (now : Int) : SimP (passS s now) (passR r now) := by
  refine ⟨by show max s.now now = max r.now now; rw [h.now], h.till, h.total, h.asked, h.ans, ?_, h.owed⟩
  have hs := h.state
  have hn := h.now
  have ht := h.till
  show (if s.state = 1 ∧ s.till < max s.now now then 3 else s.state) = stateR (passR r now)
  unfold stateR at hs ⊢
  show _ = if doneR r then 2 else if r.yes ≠ [] then 4 else if r.till < max r.now now then 3 else 1
  by_cases hd : doneR r = true
  · rw [if_pos hd] at hs ⊢
    rw [if_neg (by omega), hs]
  · rw [if_neg hd] at hs ⊢
    by_cases hy : r.yes ≠ []
    · rw [if_pos hy] at hs ⊢
      rw [if_neg (by omega), hs]
    · rw [if_neg hy] at hs ⊢
      by_cases h1 : r.till < r.now
      · rw [if_pos h1] at hs
        rw [if_neg (by omega), hs, if_pos (by omega)]
      · rw [if_neg h1] at hs
        by_cases h2 : r.till < max r.now now
        · rw [if_pos ⟨hs, by rw [ht, hn]; exact h2⟩, if_pos h2]
        · rw [if_neg (fun h => h2 (by rw [← ht, ← hn]; exact h.2)), hs, if_neg h2]

theorem sim_ask {s : PayS} {r : RefS} (h : SimP s r) (ok : PayOK s) (now : Int) : (askS s now).2 = (askR r now).2 ∧ SimP (askS s now).1 (askR r now).1 := by
  have hp := h.pass now
  unfold askS askR
  by_cases ht : tickB now = true
  · rw [if_pos ht, if_pos ht]
    have hst := hp.state
    have hok := ok.pass ht
    have s0 := hok.state0
    have s1 := hok.state1
    by_cases h3 : (passS s now).state = 3
    · rw [if_pos h3, if_neg (show ¬ (stateR (passR r now) = 2 ∨ stateR (passR r now) = 4) by omega), if_pos (show stateR (passR r now) = 3 by omega)]
      exact ⟨rfl, hp⟩
    · rw [if_neg h3]
      by_cases h1 : (passS s now).state = 1
      · rw [if_neg (show ¬ (passS s now).state ≠ 1 from fun h => h h1), if_neg (show ¬ (stateR (passR r now) = 2 ∨ stateR (passR r now) = 4) by omega), if_neg (show ¬ stateR (passR r now) = 3 by omega)]
        have ha := h.asked
        by_cases h100 : s.asked = 100
        · rw [if_pos (show (passS s now).asked = 100 from h100), if_pos (show r.answers.length = 100 by omega)]
          exact ⟨rfl, hp⟩
        · rw [if_neg (show ¬ (passS s now).asked = 100 from h100), if_neg (show ¬ r.answers.length = 100 by omega)]
          refine ⟨by show (s.asked + 1, (0 : Int)) = _; rw [ha], ?_⟩
          refine ⟨hp.now, hp.till, hp.total, ?_, ?_, hp.state, hp.owed⟩
          · show s.asked + 1 = ((r.answers ++ [0]).length : Int)
            simp; exact ha
          · intro i hi
            show (r.answers ++ [0])[i]? = some (encA (s.ans (i + 1)))
            simp only [List.length_append, List.length_cons, List.length_nil] at hi
            by_cases hlt : i < r.answers.length
            · rw [List.getElem?_append_left hlt]; exact h.ans i hlt
            · have e : i = r.answers.length := by
                have : i < r.answers.length + 1 := by simpa using hi
                omega
              subst e
              have hn : s.ans (r.answers.length + 1) = none := by
                cases hv : s.ans (r.answers.length + 1) with
                | none => rfl
                | some v => have := ok.far (r.answers.length + 1) (by rw [hv]; simp); omega
              rw [hn, List.getElem?_append_right (Nat.le_refl _)]
              simp [encA]
      · rw [if_pos h1, if_pos (show stateR (passR r now) = 2 ∨ stateR (passR r now) = 4 by omega)]
        exact ⟨rfl, hp⟩
  · rw [if_neg ht, if_neg ht]
    exact ⟨rfl, h⟩

theorem sim_took {s : PayS} {r : RefS} (h : SimP s r) {a : Nat} (ha : a < r.answers.length) (y : Bool) (hn : s.ans (a + 1) = none) : SimP (tookS s (a + 1) y) (tookR r a y) := by
  obtain ⟨e1, e2, e3, e4, e5⟩ := tookS_same s (a + 1) y
  have es := tookS_state s (a + 1) y
  have eo := tookS_owed s (a + 1) y
  have hs := h.state
  have ho := h.owed
  refine ⟨by rw [e1]; exact h.now, by rw [e2]; exact h.till, by rw [e4]; exact h.total, by rw [e3, h.asked]; simp [tookR], ?_, ?_, ?_⟩
  · intro i hi
    rw [e5]
    have hi' : i < r.answers.length := by simpa [tookR] using hi
    show (r.answers.set a (encA (some y)))[i]? = some (encA (setA s.ans (a + 1) y (i + 1)))
    unfold setA
    by_cases hia : i = a
    · subst hia
      rw [if_pos rfl, List.getElem?_set_self hi']
    · rw [if_neg (by omega), List.getElem?_set_ne (by omega)]
      exact h.ans i hi'
  · rw [es]
    cases y
    · rw [if_neg (by simp)]; exact hs
    · rw [if_pos ⟨rfl, hn⟩]
      unfold stateR at hs ⊢
      unfold doneR at hs ⊢
      rw [show (tookR r a true).yes = r.yes ++ [r.now] from rfl, show (tookR r a true).till = r.till from rfl, show (tookR r a true).now = r.now from rfl]
      cases hy : r.yes with
      | nil =>
        rw [hy] at hs
        simp only [Bool.false_eq_true, if_false, ne_eq, not_true_eq_false, List.nil_append, decide_eq_true_eq] at hs ⊢
        by_cases hlt : r.till < r.now
        · rw [if_pos hlt] at hs
          rw [if_neg (by omega), if_pos hs, if_neg (by omega)]; simp
        · rw [if_neg hlt] at hs
          rw [if_pos hs, if_pos (by omega)]
      | cons t ts =>
        rw [hy] at hs
        simp only [List.cons_append, ne_eq, reduceCtorEq, not_false_eq_true, if_true, decide_eq_true_eq] at hs ⊢
        by_cases hd : t ≤ r.till
        · rw [if_pos hd] at hs ⊢; rw [if_neg (by omega), if_neg (by omega)]; exact hs
        · rw [if_neg hd] at hs ⊢; rw [if_neg (by omega), if_neg (by omega)]; exact hs
  · rw [eo]
    cases y
    · rw [if_neg (by simp)]; exact ho
    · unfold owedR at ho ⊢
      unfold stateR at hs
      unfold doneR at hs ho ⊢
      rw [show (tookR r a true).yes = r.yes ++ [r.now] from rfl, show (tookR r a true).till = r.till from rfl, show (tookR r a true).total = r.total from rfl]
      have hmul : ∀ x t : Int, x * t + t = (x + 1) * t := fun x t => by rw [Int.add_mul, Int.one_mul]
      have htot := h.total
      cases hy : r.yes with
      | nil =>
        rw [hy] at hs ho
        simp only [Bool.false_eq_true, if_false, ne_eq, not_true_eq_false, List.nil_append, decide_eq_true_eq, List.length_nil, List.length_cons, Nat.zero_add] at hs ho ⊢
        by_cases hlt : r.till < r.now
        · rw [if_pos hlt] at hs
          rw [if_pos ⟨trivial, hn, by omega⟩, if_neg (by omega), ho, htot]
          simp
        · rw [if_neg hlt] at hs
          rw [if_neg (fun h => h.2.2 hs), if_pos (by omega), ho]
          simp
      | cons t ts =>
        rw [hy] at hs ho
        simp only [List.cons_append, ne_eq, reduceCtorEq, not_false_eq_true, if_true, decide_eq_true_eq, List.length_cons, List.length_append, List.length_nil] at hs ho ⊢
        by_cases hd : t ≤ r.till
        · rw [if_pos hd] at hs ho ⊢
          rw [if_pos ⟨trivial, hn, by omega⟩, ho, htot, hmul]
          congr 1; first | omega | (simp; done) | (simp; omega)
        · rw [if_neg hd] at hs ho ⊢
          rw [if_pos ⟨trivial, hn, by omega⟩, ho, htot, hmul]
          congr 1

theorem sim_ans {s : PayS} {r : RefS} (h : SimP s r) (ok : PayOK s) (a : Int) (y : Bool) (now : Int) : (ansS s a y now).2 = (ansR r a y now).2 ∧ SimP (ansS s a y now).1 (ansR r a y now).1 := by
  have hp := h.pass now
  have ha := h.asked
  unfold ansS ansR
  by_cases ht : tickB now = true
  · rw [if_pos ht, if_pos ht]
    by_cases hr : a < 1 ∨ s.asked < a
    · rw [if_pos hr, if_pos (show a < 1 ∨ (r.answers.length : Int) < a by omega)]
      exact ⟨rfl, hp⟩
    · rw [if_neg hr, if_neg (show ¬ (a < 1 ∨ (r.answers.length : Int) < a) by omega)]
      obtain ⟨k, rfl⟩ : ∃ k : Nat, a = k + 1 := ⟨(a - 1).toNat, by omega⟩
      have hk : k < r.answers.length := by omega
      have hkk : ((k : Int) + 1 - 1).toNat = k := by omega
      have hg : r.answers.getD k 0 = encA (s.ans (k + 1)) := by
        rw [List.getD_eq_getElem?_getD, h.ans k hk]; rfl
      rw [hkk, hg]
      by_cases hs : s.ans (k + 1) = some (!y)
      · rw [if_pos hs, if_pos (by rw [hs]; cases y <;> simp [encA])]
        exact ⟨rfl, hp⟩
      · rw [if_neg hs]
        cases hv : s.ans (k + 1) with
        | none =>
          rw [if_neg (by simp [encA]), if_pos (by rfl)]
          have h2 := sim_took hp (a := k) hk y hv
          exact ⟨by rw [h2.state], h2⟩
        | some v =>
          have hvy : v = y := by
            rw [hv] at hs
            cases v <;> cases y <;> simp at hs <;> rfl
          subst hvy
          rw [if_neg (by simp), if_neg (by cases v <;> simp [encA])]
          have e1 : tookS (passS s now) (k + 1) v = { passS s now with ans := setA s.ans (k + 1) v } := by
            rw [tookS, if_neg (fun h' => by have h3 : s.ans (k + 1) = none := h'.2; rw [hv] at h3; cases h3)]
            rfl
          rw [e1]
          refine ⟨by show ((passS s now).state, (0 : Int)) = _; rw [hp.state], hp.now, hp.till, hp.total, hp.asked, ?_, hp.state, hp.owed⟩
          intro i hi
          show _ = some (encA (setA s.ans (k + 1) v (i + 1)))
          have h5 := h.ans i hi
          unfold setA
          by_cases hik : ((i : Int) + 1) = k + 1
          · rw [if_pos hik]
            have : i = k := by omega
            subst this
            show r.answers[i]? = _
            rw [h5, hv]
          · rw [if_neg hik]; exact h5
  · rw [if_neg ht, if_neg ht]
    exact ⟨rfl, h⟩

theorem sim_step {s : PayS} {r : RefS} (h : SimP s r) (ok : PayOK s) (o : OpS) : (stepS s o).2 = (stepR r o).2 ∧ SimP (stepS s o).1 (stepR r o).1 := by
  unfold stepS stepR
  by_cases h0 : o.1 = 0
  · rw [if_pos h0, if_pos h0]; exact sim_ask h ok _
  · rw [if_neg h0, if_neg h0]; exact sim_ans h ok _ _ _
end Go.Proofs.Ythgiopgapkjleaa
