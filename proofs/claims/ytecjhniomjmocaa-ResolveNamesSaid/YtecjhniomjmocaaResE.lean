/- Layer 12 (resolve), in plain words: zones under way. No program is named here. -/
import Derived.Test.YtecjhniomjmocaaResP
namespace Go.Proofs.Ytecjhniomjmocaa
open Go.RowKit
set_option linter.unusedVariables false
set_option linter.unusedSimpArgs false

/-- A zone that a walk may handle: ten ranges, each an int. -/
def GoodZ (z : Zn) : Prop := z.length = 10 ∧ ∀ r ∈ z, fits r.1 ∧ fits r.2
theorem limZ_good : GoodZ limZ := ⟨rfl, by
  intro r hr
  simp only [limZ, List.mem_cons, List.not_mem_nil, or_false] at hr
  rcases hr with rfl | rfl | rfl | rfl | rfl | rfl | rfl | rfl | rfl | rfl <;> exact ⟨by unfold fits; decide, by unfold fits; decide⟩⟩
theorem GoodZ.at {z : Zn} (h : GoodZ z) {a : Nat} (ha : a < 10) : fits (atR z a).1 ∧ fits (atR z a).2 := by
  have hz := h.1
  have e : atR z a = z[a]'(by omega) := by unfold atR; rw [List.getD_eq_getElem?_getD, List.getElem?_eq_getElem (by omega)]; rfl
  rw [e]
  exact h.2 _ (List.getElem_mem _)
theorem GoodZ.set {z : Zn} (h : GoodZ z) (a : Nat) {r : Rg} (hr : fits r.1 ∧ fits r.2) : GoodZ (z.set a r) :=
  ⟨by rw [List.length_set]; exact h.1, fun x hx => by
    rcases List.mem_or_eq_of_mem_set hx with h1 | rfl
    · exact h.2 x h1
    · exact hr⟩
theorem cand_fits {r : Rg} {op n : Int} (hr : fits r.1 ∧ fits r.2) (hn : 0 ≤ n ∧ n ≤ 1000000000) : ∀ x ∈ candP r op n, fits x.1 ∧ fits x.2 := by
  obtain ⟨⟨h1, h2⟩, h3, h4⟩ := hr
  intro x hx
  unfold candP at hx
  unfold fits
  repeat' split at hx
  all_goals simp only [List.mem_cons, List.not_mem_nil, or_false] at hx
  all_goals first
    | (subst hx; dsimp only; omega)
    | (rcases hx with rfl | rfl <;> (dsimp only; omega))
    | exact hx.elim
theorem cand_len {r : Rg} {op n : Int} : (candP r op n).length ≤ 2 := by
  unfold candP
  repeat' split
  all_goals simp
theorem within_len {r : Rg} {op n : Int} : (withinP r op n).length ≤ 2 := Nat.le_trans (List.length_filter_le _ _) cand_len
theorem step_good {z : Zn} {a : Nat} {op n : Int} (h : GoodZ z) (ha : a < 10) (hn : 0 ≤ n ∧ n ≤ 1000000000) : ∀ x ∈ stepZ z a op n, GoodZ x := by
  intro x hx
  unfold stepZ at hx
  obtain ⟨r, hr, rfl⟩ := List.mem_map.1 hx
  exact h.set a (cand_fits (h.at ha) hn r (List.mem_filter.1 hr).1)
theorem num_out {L : Nm} {t : Ts} (h : (numP L t).1 = 0) : (numP L t).2.1 < 10 ∧ 0 ≤ (numP L t).2.2 ∧ (numP L t).2.2 ≤ 1000000000 ∧ 1 ≤ t.2.1 ∧ t.2.1 ≤ 6 := by
  unfold numP at *
  cases hi : idxB t.1 attrsN with
  | none =>
    rw [hi] at h
    have h' : (8 : Int) = 0 := h
    omega
  | some a =>
    rw [hi] at h
    simp only at h ⊢
    split at h
    · exact absurd h (by decide)
    · rename_i hc
      rw [if_neg hc]
      split at h
      · exact absurd h (by decide)
      · rename_i m hm
        split at h
        · exact absurd h (by decide)
        · rename_i hc2
          rw [if_neg hc2]
          have ha : ∀ {l : List ByteArray} {k : Nat}, idxB t.1 l = some k → k < l.length := by
            intro l
            induction l with
            | nil => intro k h; cases h
            | cons x l ih =>
              intro k h
              unfold idxB at h
              split at h
              · cases h; simp
              · cases hx : idxB t.1 l with
                | none => rw [hx] at h; cases h
                | some q => rw [hx] at h; cases h; have := ih hx; simp; omega
          have := ha hi
          have e : attrsN.length = 10 := rfl
          refine ⟨by simp only; omega, by simp only; omega, by simp only; omega, by omega, by omega⟩
def foldZ (L : Nm) (l : List Ts) : List Zn := zonesP L l
theorem zones_take {L : Nm} {l : List Ts} {k : Nat} {t : Ts} (h : l[k]? = some t) : zonesP L (l.take (k + 1)) = nextZ L (zonesP L (l.take k)) t := by
  unfold zonesP
  rw [List.take_add_one, h, List.foldl_append]
  rfl
theorem badT_take {L : Nm} : ∀ {l : List Ts} {k : Nat} {t : Ts}, badT L (l.take k) = none → l[k]? = some t → badT L (l.take (k + 1)) = if (numP L t).1 = 0 then none else some ((numP L t).1, t.2.2.2.2)
  | [], k, t, _, h => by simp at h
  | x :: l, 0, t, _, h => by
    simp at h
    subst h
    rfl
  | x :: l, k + 1, t, hb, h => by
    have hb' : (if (numP L x).1 = 0 then badT L (l.take k) else some ((numP L x).1, x.2.2.2.2)) = none := hb
    show (if (numP L x).1 = 0 then badT L (l.take (k + 1)) else some ((numP L x).1, x.2.2.2.2)) = _
    by_cases h0 : (numP L x).1 = 0
    · rw [if_pos h0] at hb' ⊢
      exact badT_take hb' (by simpa using h)
    · rw [if_neg h0] at hb'
      cases hb'
theorem badT_stop {L : Nm} : ∀ {l : List Ts} {k : Nat} {e : Int × Int}, badT L (l.take k) = some e → badT L l = some e
  | [], k, e, h => by simpa using h
  | x :: l, 0, e, h => by cases h
  | x :: l, k + 1, e, h => by
    have h' : (if (numP L x).1 = 0 then badT L (l.take k) else some ((numP L x).1, x.2.2.2.2)) = some e := h
    show (if (numP L x).1 = 0 then badT L l else some ((numP L x).1, x.2.2.2.2)) = some e
    by_cases h0 : (numP L x).1 = 0
    · rw [if_pos h0] at h' ⊢
      exact badT_stop h'
    · rw [if_neg h0] at h' ⊢
      exact h'
theorem next_len {L : Nm} {t : Ts} : ∀ out : List Zn, (nextZ L out t).length ≤ 2 * out.length
  | [] => by simp [nextZ]
  | z :: out => by
    have := next_len (L := L) (t := t) out
    unfold nextZ at this ⊢
    rw [List.flatMap_cons, List.length_append]
    have h1 : (stepZ z (numP L t).2.1 t.2.1 (numP L t).2.2).length ≤ 2 := by unfold stepZ; rw [List.length_map]; exact within_len
    simp only [List.length_cons]
    omega
theorem zones_len {L : Nm} {l : List Ts} : ∀ k, (zonesP L (l.take k)).length ≤ 2 ^ k
  | 0 => by simp [zonesP]
  | k + 1 => by
    have ih := zones_len (L := L) (l := l) k
    cases h : l[k]? with
    | none =>
      have hl := List.getElem?_eq_none_iff.1 h
      rw [List.take_of_length_le hl] at ih
      rw [List.take_of_length_le (by omega), Nat.pow_succ]
      omega
    | some t =>
      rw [zones_take h, Nat.pow_succ]
      have := next_len (L := L) (t := t) (zonesP L (l.take k))
      omega
theorem zones_good {L : Nm} {l : List Ts} : ∀ k, badT L (l.take k) = none → ∀ z ∈ zonesP L (l.take k), GoodZ z
  | 0, _ => by
    intro z hz
    simp [zonesP] at hz
    subst hz
    exact limZ_good
  | k + 1, hb => by
    cases h : l[k]? with
    | none =>
      have hl := List.getElem?_eq_none_iff.1 h
      rw [List.take_of_length_le (by omega)] at hb ⊢
      have := zones_good (L := L) (l := l) k
      rw [List.take_of_length_le hl] at this
      exact this hb
    | some t =>
      have hb0 : badT L (l.take k) = none := by
        cases hc : badT L (l.take k) with
        | none => rfl
        | some e =>
          have e1 : l.take k = (l.take (k + 1)).take k := by rw [List.take_take]; congr 1; omega
          rw [e1] at hc
          rw [badT_stop hc] at hb
          cases hb
      have ih := zones_good (L := L) (l := l) k hb0
      rw [badT_take hb0 h] at hb
      have h0 : (numP L t).1 = 0 := by
        by_cases h0 : (numP L t).1 = 0
        · exact h0
        · rw [if_neg h0] at hb; cases hb
      obtain ⟨n1, n2, n3, _⟩ := num_out h0
      rw [zones_take h]
      intro z hz
      unfold nextZ at hz
      obtain ⟨z0, hz0, hz1⟩ := List.mem_flatMap.1 hz
      exact step_good (ih z0 hz0) n1 ⟨n2, n3⟩ z hz1
end Go.Proofs.Ytecjhniomjmocaa
