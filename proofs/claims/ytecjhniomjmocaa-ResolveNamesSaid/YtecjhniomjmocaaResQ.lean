/- Layer 12 (resolve), in plain words: the zones and the fault of an item. No program is named here. -/
import Derived.Test.YtecjhniomjmocaaResE
namespace Go.Proofs.Ytecjhniomjmocaa
open Go.RowKit
set_option linter.unusedVariables false
set_option linter.unusedSimpArgs false

def zonesW (L : Nm) (ws : List (List Ts)) : List Zn := ws.flatMap (zonesP L)
theorem zonesW_take {L : Nm} {ws : List (List Ts)} {k : Nat} {l : List Ts} (h : ws[k]? = some l) : zonesW L (ws.take (k + 1)) = zonesW L (ws.take k) ++ zonesP L l := by
  unfold zonesW
  rw [List.take_add_one, h, List.flatMap_append]
  simp
theorem zonesP_len {L : Nm} {l : List Ts} (h : l.length ≤ 8) : (zonesP L l).length ≤ 256 := by
  have := zones_len (L := L) (l := l) l.length
  rw [List.take_length] at this
  exact Nat.le_trans this (Nat.le_trans (Nat.pow_le_pow_right (by decide) h) (by decide))
theorem zonesW_len {L : Nm} : ∀ {ws : List (List Ts)}, (∀ l ∈ ws, l.length ≤ 8) → (zonesW L ws).length ≤ 256 * ws.length
  | [], _ => by simp [zonesW]
  | l :: r, h => by
    have h1 := zonesP_len (L := L) (h l (by simp))
    have h2 := zonesW_len (L := L) (ws := r) (fun x hx => h x (by simp [hx]))
    have e : zonesW L (l :: r) = zonesP L l ++ zonesW L r := by simp [zonesW]
    rw [e, List.length_append, List.length_cons]
    omega
theorem badW_take {L : Nm} : ∀ {ws : List (List Ts)} {k : Nat} {l : List Ts}, badW L (ws.take k) = none → ws[k]? = some l → badW L (ws.take (k + 1)) = badT L l
  | [], k, l, _, h => by simp at h
  | x :: r, 0, l, _, h => by
    simp at h
    subst h
    simp only [List.take_succ_cons, List.take_zero, badW]
    cases badT L x <;> rfl
  | x :: r, k + 1, l, hb, h => by
    simp only [List.take_succ_cons, badW] at hb ⊢
    cases hx : badT L x with
    | some e => rw [hx] at hb; cases hb
    | none => rw [hx] at hb; simp only at hb ⊢; exact badW_take hb (by simpa using h)
theorem badW_stop {L : Nm} : ∀ {ws : List (List Ts)} {k : Nat} {e : Int × Int}, badW L (ws.take k) = some e → badW L ws = some e
  | [], k, e, h => by simp [badW] at h
  | x :: r, 0, e, h => by simp [badW] at h
  | x :: r, k + 1, e, h => by
    simp only [List.take_succ_cons, badW] at h ⊢
    cases hx : badT L x with
    | some e9 => rw [hx] at h; exact h
    | none => rw [hx] at h; exact badW_stop h
/-- What is wrong with a test is no OK. -/
theorem numP_cases (L : Nm) (t : Ts) : (numP L t).1 = 0 ∨ (numP L t).1 = 8 ∨ (numP L t).1 = 10 ∨ (numP L t).1 = 2 := by
  unfold numP
  split
  · simp
  · split
    · simp
    · split
      · simp
      · split <;> simp
theorem badT_ne {L : Nm} : ∀ {l : List Ts} {e : Int × Int}, badT L l = some e → e.1 ≠ 0 ∧ fits e.1
  | [], e, h => by simp [badT] at h
  | t :: l, e, h => by
    unfold badT at h
    by_cases h0 : (numP L t).1 = 0
    · rw [if_pos h0] at h; exact badT_ne h
    · rw [if_neg h0] at h
      cases h
      refine ⟨h0, ?_⟩
      rcases numP_cases L t with h | h | h | h <;> simp [h, fits]
theorem badW_ne {L : Nm} : ∀ {ws : List (List Ts)} {e : Int × Int}, badW L ws = some e → e.1 ≠ 0 ∧ fits e.1
  | [], e, h => by simp [badW] at h
  | l :: r, e, h => by
    unfold badW at h
    cases hx : badT L l with
    | some e9 => rw [hx] at h; cases h; exact badT_ne hx
    | none => rw [hx] at h; exact badW_ne h
theorem zonesP_good {L : Nm} {l : List Ts} (h : badT L l = none) : ∀ z ∈ zonesP L l, GoodZ z := by
  have := zones_good (L := L) (l := l) l.length (by rw [List.take_length]; exact h)
  rwa [List.take_length] at this
theorem badW_none {L : Nm} : ∀ {ws : List (List Ts)}, badW L ws = none → ∀ l ∈ ws, badT L l = none
  | [], _, l, hl => by simp at hl
  | x :: r, h, l, hl => by
    unfold badW at h
    cases hx : badT L x with
    | some e => rw [hx] at h; cases h
    | none =>
      rw [hx] at h
      rcases List.mem_cons.1 hl with rfl | hl
      · exact hx
      · exact badW_none h l hl
theorem zonesW_good {L : Nm} {ws : List (List Ts)} (h : badW L ws = none) : ∀ z ∈ zonesW L ws, GoodZ z := by
  intro z hz
  obtain ⟨l, hl, hz⟩ := List.mem_flatMap.1 hz
  exact zonesP_good (badW_none h l hl) z hz
theorem zonesI_good {L : Nm} {x : It} (h : badW L x.2.2.1 = none) : ∀ z ∈ zonesI L x, GoodZ z := by
  intro z hz
  unfold zonesI at hz
  split at hz
  · simp at hz; subst hz; exact limZ_good
  · exact zonesW_good h z hz
end Go.Proofs.Ytecjhniomjmocaa
