/- Layer 12 (resolve), in plain words: the faults of items, one for each at most; without the items that have faults there are none. No program is named here. -/
import Derived.Test.YtecjhniomjmocaaResX
namespace Go.Proofs.Ytecjhniomjmocaa
open Go.RowKit
set_option linter.unusedVariables false
set_option linter.unusedSimpArgs false

/-- An item, with its number as its offset. -/
def atI (i : Nat) (x : It) : It := (x.1, x.2.1, x.2.2.1, x.2.2.2.1, x.2.2.2.2.1, x.2.2.2.2.2.1, (i : Int))
def goodP (l : List It) : List It := l.mapIdx atI
theorem goodP_len (l : List It) : (goodP l).length = l.length := by simp [goodP]
theorem goodP_at {l : List It} {i : Nat} {x : It} (h : l[i]? = some x) : (goodP l)[i]? = some (atI i x) := by simp [goodP, h]
theorem goodP_take {l : List It} {i : Nat} {x : It} (h : l[i]? = some x) : (goodP l).take (i + 1) = (goodP l).take i ++ [atI i x] := by
  rw [List.take_add_one, goodP_at h]; rfl
theorem goodP_names (l : List It) : (goodP l).map (fun x => x.2.1) = l.map (fun x => x.2.1) := by
  apply List.ext_getElem
  · simp [goodP]
  · intro i h1 h2
    simp [goodP, atI]
theorem twice_names {l : List It} {i : Nat} {x : It} : twiceP l i x = ((l.map fun y => y.2.1).take i).any fun n => decide (n = x.2.1) := by
  unfold twiceP
  rw [← List.map_take, List.any_map]
  rfl
theorem faultI_at (L : Nm) (t : Bool) (i : Nat) (x : It) : faultI L t (atI i x) = faultI L t x := rfl
theorem twice_at (l : List It) (i j : Nat) (x : It) : twiceP (goodP l) i (atI j x) = twiceP l i x := by
  rw [twice_names, twice_names, goodP_names]
  rfl
/-- The fault of item number i. -/
def fltAt (L : Nm) (l : List It) (i : Nat) (x : It) : Int × Int := faultI L (twiceP l i x) x
theorem fltAt_good (L : Nm) (l : List It) (i : Nat) (x : It) : fltAt L (goodP l) i (atI i x) = fltAt L l i x := by
  unfold fltAt
  rw [twice_at, faultI_at]
theorem ft_step {L : Nm} {l : List It} {i : Nat} {x : It} (h : l[i]? = some x) : faultsTo L l (i + 1) = faultsTo L l i ++ if (fltAt L l i x).1 = 0 then [] else [((fltAt L l i x).1, x.2.2.2.2.2.2, (fltAt L l i x).2)] := by
  rw [faultsTo, h]; rfl
theorem ft_good_step {L : Nm} {l : List It} {i : Nat} {x : It} (h : l[i]? = some x) : faultsTo L (goodP l) (i + 1) = faultsTo L (goodP l) i ++ if (fltAt L l i x).1 = 0 then [] else [((fltAt L l i x).1, (i : Int), (fltAt L l i x).2)] := by
  rw [ft_step (goodP_at h), fltAt_good]; rfl
theorem ft_over {L : Nm} {l : List It} {i : Nat} (h : l.length ≤ i) : faultsTo L l (i + 1) = faultsTo L l i := by
  rw [faultsTo, List.getElem?_eq_none h, List.append_nil]
theorem ft_prefix {L : Nm} {l : List It} {n : Nat} : ∀ d, ∃ T, faultsTo L l (n + d) = faultsTo L l n ++ T
  | 0 => ⟨[], by simp⟩
  | d + 1 => by
    obtain ⟨T, hT⟩ := ft_prefix (L := L) (l := l) (n := n) d
    rw [← Nat.add_assoc, faultsTo, hT, List.append_assoc]
    exact ⟨_, rfl⟩
/-- As many faults of the one as of the other. -/
theorem ft_len {L : Nm} {l : List It} : ∀ n, (faultsTo L (goodP l) n).length = (faultsTo L l n).length
  | 0 => rfl
  | n + 1 => by
    rcases Nat.lt_or_ge n l.length with h | h
    · have hx := List.getElem?_eq_getElem h
      rw [ft_step hx, ft_good_step hx, List.length_append, List.length_append, ft_len n]
      split <;> rfl
    · rw [ft_over h, ft_over (by rw [goodP_len]; exact h), ft_len n]
/-- What comes later has a greater number. -/
theorem ft_later {L : Nm} {l : List It} {n : Nat} : ∀ d, ∃ T, faultsTo L (goodP l) (n + d) = faultsTo L (goodP l) n ++ T ∧ ∀ t ∈ T, (n : Int) ≤ t.2.1
  | 0 => ⟨[], by simp, fun t h => by cases h⟩
  | d + 1 => by
    obtain ⟨T, hT, h1⟩ := ft_later (L := L) (l := l) (n := n) d
    rw [← Nat.add_assoc]
    rcases Nat.lt_or_ge (n + d) l.length with h | h
    · have hx := List.getElem?_eq_getElem h
      rw [ft_good_step hx, hT, List.append_assoc]
      refine ⟨_, rfl, fun t ht => ?_⟩
      rcases List.mem_append.1 ht with h2 | h2
      · exact h1 t h2
      · split at h2
        · cases h2
        · rw [List.mem_singleton] at h2
          subst h2
          show (n : Int) ≤ ((n + d : Nat) : Int)
          omega
    · rw [ft_over (by rw [goodP_len]; exact h)]
      exact ⟨T, hT, h1⟩
theorem fp_short {L : Nm} {l : List It} (h : l.length ≤ 200) : faultsP L l = faultsTo L l l.length := by
  unfold faultsP
  rw [Nat.min_eq_left h, List.getElem?_eq_none h]
  simp
/-- The number of faults ahead of item i. -/
def cntP (L : Nm) (l : List It) (i : Nat) : Nat := (faultsTo L l i).length
theorem cntP_step {L : Nm} {l : List It} {i : Nat} {x : It} (h : l[i]? = some x) : cntP L l (i + 1) = cntP L l i + if (fltAt L l i x).1 = 0 then 0 else 1 := by
  unfold cntP
  rw [ft_step h, List.length_append]
  split <;> rfl
theorem lt_of_at {α : Type} {l : List α} {i : Nat} {x : α} (h : l[i]? = some x) : i < l.length := (List.getElem?_eq_some_iff.1 h).1
theorem cntP_le {L : Nm} {l : List It} {i : Nat} (h : i ≤ l.length) : cntP L l i ≤ (faultsTo L l l.length).length := by
  obtain ⟨T, hT⟩ := ft_prefix (L := L) (l := l) (n := i) (l.length - i)
  rw [Nat.add_sub_cancel' h] at hT
  rw [hT, List.length_append]
  unfold cntP
  omega
/-- An item with a fault: it is the next of both lists. -/
theorem at_fault {L : Nm} {l : List It} (hl : l.length ≤ 200) {i : Nat} {x : It} (h : l[i]? = some x) (hf : ¬ (fltAt L l i x).1 = 0) :
    cntP L l i < (faultsP L l).length ∧ (faultsP L l)[cntP L l i]? = some ((fltAt L l i x).1, x.2.2.2.2.2.2, (fltAt L l i x).2) ∧ (faultsP L (goodP l))[cntP L l i]? = some ((fltAt L l i x).1, (i : Int), (fltAt L l i x).2) := by
  have hi := lt_of_at h
  have hg : (goodP l).length = l.length := goodP_len l
  rw [fp_short hl, fp_short (by omega), hg]
  have e : l.length = (i + 1) + (l.length - (i + 1)) := by omega
  have h1 : (faultsTo L l l.length)[cntP L l i]? = some ((fltAt L l i x).1, x.2.2.2.2.2.2, (fltAt L l i x).2) := by
    obtain ⟨T, hT⟩ := ft_prefix (L := L) (l := l) (n := i + 1) (l.length - (i + 1))
    rw [← e] at hT
    rw [hT, ft_step h, if_neg hf, List.append_assoc, List.getElem?_append_right (by unfold cntP; exact Nat.le_refl _)]
    unfold cntP
    simp
  refine ⟨lt_of_at h1, h1, ?_⟩
  obtain ⟨T, hT, _⟩ := ft_later (L := L) (l := l) (n := i + 1) (l.length - (i + 1))
  rw [← e] at hT
  have hc : cntP L l i = (faultsTo L (goodP l) i).length := (ft_len i).symm
  rw [hT, ft_good_step h, if_neg hf, List.append_assoc, hc, List.getElem?_append_right (Nat.le_refl _)]
  simp
/-- An item without a fault: the next of the faults, if there is one, is of a later item. -/
theorem no_fault {L : Nm} {l : List It} (hl : l.length ≤ 200) {i : Nat} {x : It} (h : l[i]? = some x) (hf : (fltAt L l i x).1 = 0) {t : Fa} (ht : (faultsP L (goodP l))[cntP L l i]? = some t) : t.2.1 ≠ (i : Int) := by
  have hi := lt_of_at h
  have hg : (goodP l).length = l.length := goodP_len l
  rw [fp_short (by omega), hg] at ht
  have e : l.length = (i + 1) + (l.length - (i + 1)) := by omega
  obtain ⟨T, hT, h1⟩ := ft_later (L := L) (l := l) (n := i + 1) (l.length - (i + 1))
  rw [← e] at hT
  have hc : cntP L l i = (faultsTo L (goodP l) i).length := (ft_len i).symm
  rw [hT, ft_good_step h, if_pos hf, List.append_nil, hc, List.getElem?_append_right (Nat.le_refl _), Nat.sub_self] at ht
  have hm := List.mem_of_getElem? ht
  have := h1 t hm
  omega
theorem fp_len {L : Nm} {l : List It} (hl : l.length ≤ 200) : (faultsP L (goodP l)).length = (faultsP L l).length := by
  rw [fp_short hl, fp_short (by rw [goodP_len]; exact hl), goodP_len, ft_len]
theorem cntP_all {L : Nm} {l : List It} (hl : l.length ≤ 200) : cntP L l l.length = (faultsP L l).length := by
  rw [fp_short hl]; rfl
/-- The items that have no faults. -/
def restTo (L : Nm) (l : List It) : Nat → List It
  | 0 => []
  | i + 1 => restTo L l i ++ match l[i]? with
    | none => []
    | some x => if (fltAt L l i x).1 = 0 then [atI i x] else []
theorem restTo_step {L : Nm} {l : List It} {i : Nat} {x : It} (h : l[i]? = some x) : restTo L l (i + 1) = restTo L l i ++ if (fltAt L l i x).1 = 0 then [atI i x] else [] := by
  rw [restTo, h]
theorem restTo_len {L : Nm} {l : List It} : ∀ n, (restTo L l n).length ≤ n
  | 0 => Nat.le_refl _
  | n + 1 => by
    rw [restTo, List.length_append]
    have := restTo_len (L := L) (l := l) n
    split
    · simp; omega
    · split <;> simp <;> omega
theorem restTo_mem {L : Nm} {l : List It} : ∀ {n : Nat} {y : It}, y ∈ restTo L l n → ∃ i x, i < n ∧ l[i]? = some x ∧ y = atI i x
  | 0, y, h => by cases h
  | n + 1, y, h => by
    rw [restTo] at h
    rcases List.mem_append.1 h with h1 | h1
    · obtain ⟨i, x, a, b, c⟩ := restTo_mem h1
      exact ⟨i, x, by omega, b, c⟩
    · split at h1
      · cases h1
      · rename_i x hx
        split at h1
        · rw [List.mem_singleton] at h1
          exact ⟨n, x, by omega, hx, h1⟩
        · cases h1
theorem twice_false {l : List It} {i : Nat} {x : It} : twiceP l i x = false ↔ ∀ y ∈ l.take i, y.2.1 ≠ x.2.1 := by
  unfold twiceP
  rw [List.any_eq_false]
  simp
theorem ft_app {L : Nm} {l : List It} {y : It} : ∀ {m : Nat}, m ≤ l.length → faultsTo L (l ++ [y]) m = faultsTo L l m
  | 0, _ => rfl
  | m + 1, h => by
    have hx : (l ++ [y])[m]? = l[m]? := List.getElem?_append_left (by omega)
    have ht : ∀ x, twiceP (l ++ [y]) m x = twiceP l m x := fun x => by
      unfold twiceP
      rw [List.take_append_of_le_length (by omega)]
    rw [faultsTo, faultsTo, ft_app (by omega), hx]
    simp only [ht]
theorem rest_faults {L : Nm} {l : List It} : ∀ n, faultsTo L (restTo L l n) (restTo L l n).length = []
  | 0 => rfl
  | n + 1 => by
    have ih := rest_faults (L := L) (l := l) n
    cases hx : l[n]? with
    | none => rw [restTo, hx]; simpa using ih
    | some x =>
      rw [restTo_step hx]
      by_cases h0 : (fltAt L l n x).1 = 0
      · rw [if_pos h0, List.length_append]
        show faultsTo L _ ((restTo L l n).length + 1) = []
        have hat : (restTo L l n ++ [atI n x])[(restTo L l n).length]? = some (atI n x) := by simp
        rw [ft_step hat, ft_app (Nat.le_refl _), ih]
        have hz : (fltAt L (restTo L l n ++ [atI n x]) (restTo L l n).length (atI n x)).1 = 0 := by
          unfold fltAt
          have htw : twiceP (restTo L l n ++ [atI n x]) (restTo L l n).length (atI n x) = false := by
            rw [twice_false]
            intro y hy
            rw [List.take_left] at hy
            obtain ⟨i, x', h1, h2, rfl⟩ := restTo_mem hy
            obtain ⟨_, _, _, _, _, htw⟩ := fault_none h0
            rw [twice_false] at htw
            exact htw x' (List.mem_of_getElem? (i := i) (by rw [List.getElem?_take_of_lt h1]; exact h2))
          rw [htw, faultI_at]
          obtain ⟨_, _, _, _, _, htw2⟩ := fault_none h0
          unfold fltAt at h0
          rwa [htw2] at h0
        rw [if_pos hz]
        rfl
      · rw [if_neg h0, List.append_nil]
        exact ih
theorem rest_none {L : Nm} {l : List It} {n : Nat} (hn : n ≤ 200) : faultsP L (restTo L l n) = [] := by
  rw [fp_short (Nat.le_trans (restTo_len n) hn)]
  exact rest_faults n
theorem badT_mem {L : Nm} : ∀ {l : List Ts} {e : Int × Int}, badT L l = some e → ∃ t ∈ l, t.2.2.2.2 = e.2
  | [], e, h => by simp [badT] at h
  | t :: l, e, h => by
    unfold badT at h
    split at h
    · obtain ⟨t', h1, h2⟩ := badT_mem h
      exact ⟨t', by simp [h1], h2⟩
    · cases h
      exact ⟨t, by simp, rfl⟩
theorem badW_mem {L : Nm} : ∀ {ws : List (List Ts)} {e : Int × Int}, badW L ws = some e → ∃ l ∈ ws, ∃ t ∈ l, t.2.2.2.2 = e.2
  | [], e, h => by simp [badW] at h
  | l :: ws, e, h => by
    unfold badW at h
    split at h
    · rename_i e' he
      cases h
      obtain ⟨t, h1, h2⟩ := badT_mem he
      exact ⟨l, by simp, t, h1, h2⟩
    · obtain ⟨l', h1, t, h2, h3⟩ := badW_mem h
      exact ⟨l', by simp [h1], t, h2, h3⟩
/-- Whether an item has a test with an offset. -/
def hasB (x : It) (n : Int) : Bool := x.2.2.1.any fun l => l.any fun t => decide (t.2.2.2.2 = n)
theorem fault_has {L : Nm} {l : List It} {i : Nat} {x : It} : (fltAt L l i x).2 = -1 ∨ (fltAt L l i x).1 = 0 ∨ hasB x (fltAt L l i x).2 = true := by
  unfold fltAt faultI
  repeat' split
  all_goals first
    | exact .inl rfl
    | exact .inr (.inl rfl)
    | skip
  rename_i e he
  obtain ⟨l', h1, t, h2, h3⟩ := badW_mem he
  right; right
  unfold hasB
  rw [List.any_eq_true]
  refine ⟨l', h1, ?_⟩
  rw [List.any_eq_true]
  exact ⟨t, h2, by simpa using h3⟩
end Go.Proofs.Ytecjhniomjmocaa
