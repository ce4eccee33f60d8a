/- Layer 28 (pay), in plain numbers: the attempts that were answered by yes, and what is owed. -/
import Derived.Test.YthgiopgapkjleaaPayR
import Derived.Test.YthgiopgapkjleaaMap
namespace Go.Proofs.Ythgiopgapkjleaa
set_option linter.unusedVariables false
set_option linter.unusedSimpArgs false

/-- g is the set of the attempts that were answered by yes; it has m of them. -/
structure YesIs (s : PayS) (m : Nat) (g : Int → Option Bool) : Prop where
  money : MoneyI s m
  set_ : ∀ x, (g x).isSome = decide (s.ans x = some true)
theorem YesIs.start (total till : Int) : YesIs ⟨0, till, total, 0, 1, 0, fun _ => none⟩ 0 (fun _ => none) := by
  refine ⟨?_, fun x => by simp⟩
  unfold MoneyI; simp
theorem YesIs.pass {s : PayS} {m : Nat} {g : Int → Option Bool} (h : YesIs s m g) (now : Int) : YesIs (passS s now) m g := ⟨money_pass h.money now, h.set_⟩
theorem step_money (s : PayS) (o : OpS) (m : Nat) (g : Int → Option Bool) (h : YesIs s m g) :
    ((o.1 ≠ 0 ∧ o.2.1 = true ∧ (stepS s o).2.2 = 0) → YesIs (stepS s o).1 (if (g o.1).isSome then m else m + 1) (putF g o.1 true)) ∧ (¬ (o.1 ≠ 0 ∧ o.2.1 = true ∧ (stepS s o).2.2 = 0) → YesIs (stepS s o).1 m g) := by
  obtain ⟨a, y, now⟩ := o
  unfold stepS
  have hp := h.pass now
  by_cases h0 : a = 0
  · rw [if_pos h0]
    refine ⟨fun h => absurd h0 h.1, fun _ => ?_⟩
    rcases ask_cases s now with ⟨_, e⟩ | ⟨_, _, e⟩ | ⟨_, _, _, e⟩ | ⟨_, _, _, e⟩ | ⟨_, _, _, e⟩
    · rw [e]; exact h
    · rw [e]; exact hp
    · rw [e]; exact hp
    · rw [e]; exact hp
    · rw [e]; exact ⟨hp.money, hp.set_⟩
  · rw [if_neg h0]
    rcases ans_cases s a y now with ⟨_, e⟩ | ⟨_, _, e⟩ | ⟨_, _, _, _, e⟩ | ⟨_, _, _, hs, e⟩
    · rw [e]; exact ⟨(fun h => by have := h.2.2; cases this), fun _ => h⟩
    · rw [e]; exact ⟨(fun h => by have := h.2.2; cases this), fun _ => hp⟩
    · rw [e]; exact ⟨(fun h => by have := h.2.2; cases this), fun _ => hp⟩
    · rw [e]
      have e5 : (tookS (passS s now) a y).ans = setA s.ans a y := (tookS_same (passS s now) a y).2.2.2.2
      have hm := money_took hp.money a y
      have hn : (passS s now).ans a = s.ans a := rfl
      rw [hn] at hm
      refine ⟨fun h9 => ?_, fun h9 => ?_⟩
      · have hy : y = true := h9.2.1
        subst hy
        have hset := h.set_ a
        refine ⟨?_, fun x => ?_⟩
        · cases hv : s.ans a with
          | none =>
            rw [hv] at hm hset
            have : (g a).isSome = false := by rw [hset]; decide
            show MoneyI _ _
            simp only [this]
            simpa using hm
          | some b =>
            cases b
            · exact absurd hv hs
            · rw [hv] at hm hset
              have : (g a).isSome = true := by rw [hset]; decide
              show MoneyI _ _
              simp only [this]
              simpa using hm
        · show (putF g a true x).isSome = _
          rw [e5]
          unfold putF setA
          by_cases hx : x = a
          · rw [if_pos hx, if_pos hx]; rfl
          · rw [if_neg hx, if_neg hx]; exact h.set_ x
      · have hy : y = false := by
          cases y
          · rfl
          · exact absurd ⟨h0, rfl, rfl⟩ h9
        subst hy
        have hset := h.set_ a
        refine ⟨by simpa using hm, fun x => ?_⟩
        show _ = decide ((tookS (passS s now) a false).ans x = some true)
        rw [e5]
        unfold setA
        by_cases hx : x = a
        · subst hx
          rw [if_pos rfl, hset]
          have : s.ans x ≠ some true := fun h => hs (by rw [h]; rfl)
          simp [this]
        · rw [if_neg hx]; exact h.set_ x
end Go.Proofs.Ythgiopgapkjleaa
