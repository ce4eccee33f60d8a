/- Layer 13 (decide): what becomes of a decision when the rules are sorted, one is added, or some are left out. No program here. -/
import Derived.Test.YtmklcfmdcfbpeaaDecT
namespace Go.Proofs.Ytmklcfmdcfbpeaa
open Go.RowKit
set_option linter.unusedVariables false
set_option linter.unusedSimpArgs false

theorem heldK_append (f : Fc) (a b : List Rl) (q : Int) : heldK f (a ++ b) q = heldK f a q ++ heldK f b q := by
  unfold heldK; rw [List.filter_append]
theorem fst_is {f : Fc} {rs : List Rl} {q : Int} {i : Nat} {r : Rl} (hr : rs[i]? = some r) (hq : r.1 = q) (hh : holdsB r f = true) (hno : heldK f (rs.take i) q = []) : fst f rs q = i := by
  have mem : ∀ (l : List Rl), r ∈ l → heldK f l q ≠ [] := fun l hl h0 => by
    have : r ∈ heldK f l q := by
      unfold heldK
      exact List.mem_filter.2 ⟨hl, by simp [hq, hh]⟩
    rw [h0] at this; cases this
  rcases fst_cases f rs q with ⟨_, h2⟩ | ⟨i', r', h1, h2, h3, _, h5, h6, h7⟩
  · exact absurd h2 (mem _ (List.mem_of_getElem? hr))
  · rw [h1]
    rcases Nat.lt_trichotomy i i' with h | h | h
    · refine absurd h7 (mem _ ?_)
      refine List.mem_of_getElem? (i := i) ?_
      rw [List.getElem?_take_of_lt h]; exact hr
    · rw [h]
    · exfalso
      have : r' ∈ heldK f (rs.take i) q := by
        unfold heldK
        refine List.mem_filter.2 ⟨List.mem_of_getElem? (i := i') ?_, by simp [h5, h6]⟩
        rw [List.getElem?_take_of_lt h]; exact h3
      rw [hno] at this; cases this
theorem fst_neg {f : Fc} {rs : List Rl} {q : Int} (h : heldK f rs q = []) : fst f rs q = -1 := by
  rcases fst_cases f rs q with ⟨h1, _⟩ | ⟨i, r, _, _, _, h4, _⟩
  · exact h1
  · rw [h] at h4; cases h4

/-! ### sorted by kinds -/
def kindAt (rs : List Rl) (i : Nat) (κ : Int) : Bool := match rs[i]? with | some r => decide (r.1 = κ) | none => false
def idxTo (rs : List Rl) (κ : Int) (n : Nat) : List Nat := (List.range n).filter fun i => kindAt rs i κ
def frTo (rs : List Rl) : Nat → List Nat
  | 0 => []
  | m + 1 => frTo rs m ++ idxTo rs (7 - (m : Int)) rs.length
def pickL (rs : List Rl) (l : List Nat) : List Rl := l.filterMap fun i => rs[i]?
theorem pickL_append (rs : List Rl) (a b : List Nat) : pickL rs (a ++ b) = pickL rs a ++ pickL rs b := by unfold pickL; rw [List.filterMap_append]
theorem idxTo_succ (rs : List Rl) (κ : Int) (n : Nat) : idxTo rs κ (n + 1) = idxTo rs κ n ++ if kindAt rs n κ = true then [n] else [] := by
  unfold idxTo
  rw [List.range_succ, List.filter_append]
  congr 1
  by_cases h : kindAt rs n κ = true <;> simp [h]
theorem pick_idx (rs : List Rl) (κ : Int) : ∀ n, n ≤ rs.length → pickL rs (idxTo rs κ n) = (rs.take n).filter (fun r => decide (r.1 = κ))
  | 0, _ => rfl
  | n + 1, hn => by
    have hr : rs[n]? = some rs[n] := List.getElem?_eq_getElem (by omega)
    rw [idxTo_succ, pickL_append, pick_idx rs κ n (by omega), List.take_add_one, hr, List.filter_append]
    congr 1
    have hk : kindAt rs n κ = decide (rs[n].1 = κ) := by unfold kindAt; rw [hr]
    rw [hk]
    by_cases h : rs[n].1 = κ
    · simp [h, pickL, hr]
    · simp [h, pickL]
theorem held_filter (f : Fc) (l : List Rl) (κ q : Int) : heldK f (l.filter fun r => decide (r.1 = κ)) q = if κ = q then heldK f l q else [] := by
  unfold heldK
  rw [List.filter_filter]
  by_cases h : κ = q
  · subst h
    rw [if_pos rfl]
    congr 1
    funext r
    by_cases e : r.1 = κ <;> simp [e]
  · rw [if_neg h, List.filter_eq_nil_iff]
    intro r _ e
    simp only [Bool.and_eq_true, decide_eq_true_eq] at e
    exact h (e.2.symm.trans e.1.1)
theorem held_idx (f : Fc) (rs : List Rl) (κ q : Int) (n : Nat) (hn : n ≤ rs.length) : heldK f (pickL rs (idxTo rs κ n)) q = if κ = q then heldK f (rs.take n) q else [] := by
  rw [pick_idx rs κ n hn, held_filter]
theorem held_fr (f : Fc) (rs : List Rl) (q : Int) : ∀ m : Nat, heldK f (pickL rs (frTo rs m)) q = if 7 - (m : Int) < q ∧ q ≤ 7 then heldK f rs q else []
  | 0 => by rw [if_neg (by omega)]; rfl
  | m + 1 => by
    show heldK f (pickL rs (frTo rs m ++ idxTo rs (7 - (m : Int)) rs.length)) q = _
    rw [pickL_append, heldK_append, held_fr f rs q m, held_idx f rs _ q _ (Nat.le_refl _), List.take_length]
    by_cases h1 : 7 - (m : Int) < q ∧ q ≤ 7
    · rw [if_pos h1, if_neg (by omega), if_pos (by omega), List.append_nil]
    · rw [if_neg h1]
      by_cases h2 : 7 - (m : Int) = q
      · rw [if_pos h2, if_pos (by omega)]; rfl
      · rw [if_neg h2, if_neg (by omega)]; rfl
theorem fr_lt (rs : List Rl) : ∀ m, ∀ i ∈ frTo rs m, i < rs.length
  | 0, i, h => by cases h
  | m + 1, i, h => by
    rcases List.mem_append.1 h with h | h
    · exact fr_lt rs m i h
    · unfold idxTo at h
      exact List.mem_range.1 (List.mem_filter.1 h).1
theorem pickL_len (rs : List Rl) : ∀ (l : List Nat), (∀ i ∈ l, i < rs.length) → (pickL rs l).length = l.length
  | [], _ => rfl
  | i :: l, h => by
    have hi : i < rs.length := h i (by simp)
    have := pickL_len rs l (fun j hj => h j (by simp [hj]))
    unfold pickL at this ⊢
    rw [List.filterMap_cons_some (List.getElem?_eq_getElem hi), List.length_cons, List.length_cons, this]
theorem idx_lt (rs : List Rl) (κ : Int) (n : Nat) (hn : n ≤ rs.length) : ∀ i ∈ idxTo rs κ n, i < rs.length := fun i h => by
  unfold idxTo at h
  have := List.mem_range.1 (List.mem_filter.1 h).1
  omega
theorem idx_split (rs : List Rl) (κ : Int) {i : Nat} (hk : kindAt rs i κ = true) : ∀ n, i < n → ∃ t, idxTo rs κ n = idxTo rs κ i ++ i :: t
  | 0, h => by omega
  | n + 1, h => by
    by_cases e : i = n
    · subst e; exact ⟨[], by rw [idxTo_succ, if_pos hk]⟩
    · obtain ⟨t, ht⟩ := idx_split rs κ hk n (by omega)
      exact ⟨t ++ if kindAt rs n κ = true then [n] else [], by rw [idxTo_succ, ht, List.append_assoc]; rfl⟩
theorem fr_split (rs : List Rl) (q : Int) : ∀ m : Nat, 7 - (m : Int) < q ∧ q ≤ 7 → ∃ (m' : Nat) (C : List Nat), 7 - (m' : Int) = q ∧ frTo rs m = frTo rs m' ++ idxTo rs q rs.length ++ C
  | 0, h => by omega
  | m + 1, h => by
    by_cases e : 7 - (m : Int) = q
    · exact ⟨m, [], e, by rw [List.append_nil, ← e]; rfl⟩
    · obtain ⟨m', C, h1, h2⟩ := fr_split rs q m (by omega)
      exact ⟨m', C ++ idxTo rs (7 - (m : Int)) rs.length, h1, by rw [← List.append_assoc, ← h2]; rfl⟩

/-- Where the first of a kind stands among the sorted ones. -/
theorem fst_sorted (f : Fc) (rs : List Rl) (q : Int) (hq : 1 ≤ q ∧ q ≤ 7) :
    (fst f (pickL rs (frTo rs 7)) q = -1 ∧ fst f rs q = -1) ∨ ∃ i j : Nat, fst f (pickL rs (frTo rs 7)) q = j ∧ fst f rs q = i ∧ (frTo rs 7)[j]? = some i := by
  have hh := held_fr f rs q 7
  rw [if_pos (by omega)] at hh
  rcases fst_cases f rs q with ⟨h1, h2⟩ | ⟨i, r, h1, h2, h3, _, h5, h6, h7⟩
  · exact .inl ⟨fst_neg (by rw [hh, h2]), h1⟩
  · right
    have hk : kindAt rs i q = true := by unfold kindAt; rw [h3]; simp [h5]
    obtain ⟨m', C, e1, e2⟩ := fr_split rs q 7 (by omega)
    obtain ⟨t, ht⟩ := idx_split rs q hk rs.length h2
    have e3 : frTo rs 7 = (frTo rs m' ++ idxTo rs q i) ++ (i :: (t ++ C)) := by
      rw [e2, ht]; simp [List.append_assoc]
    have hl : (pickL rs (frTo rs m' ++ idxTo rs q i)).length = (frTo rs m' ++ idxTo rs q i).length := pickL_len rs _ fun x hx => by
      rcases List.mem_append.1 hx with hx | hx
      · exact fr_lt rs m' x hx
      · exact idx_lt rs q i (by omega) x hx
    have e4 : pickL rs (frTo rs 7) = pickL rs (frTo rs m' ++ idxTo rs q i) ++ r :: pickL rs (t ++ C) := by
      rw [e3, pickL_append]
      congr 1
      unfold pickL
      rw [List.filterMap_cons_some h3]
    refine ⟨i, (frTo rs m' ++ idxTo rs q i).length, ?_, h1, by rw [e3, List.getElem?_append_right (Nat.le_refl _)]; simp⟩
    refine fst_is (r := r) ?_ h5 h6 ?_
    · rw [e4, List.getElem?_append_right (by omega), hl]; simp
    · rw [e4, List.take_append_of_le_length (by omega), ← hl, List.take_length, pickL_append, heldK_append, held_fr, if_neg (by omega), held_idx f rs q q i (by omega), if_pos rfl, h7]; rfl

/-! ### one more rule -/
theorem held_more (f : Fc) (rs : List Rl) (r : Rl) (q : Int) : heldK f (rs ++ [r]) q = heldK f rs q ++ if r.1 = q ∧ holdsB r f = true then [r] else [] := by
  have hr : (rs ++ [r])[rs.length]? = some r := by simp
  have := heldK_take (f := f) q hr
  rw [show rs.length + 1 = (rs ++ [r]).length by simp, List.take_length, List.take_left'] at this
  · exact this
  · rfl
theorem fst_more (f : Fc) (rs : List Rl) (r : Rl) (q : Int) : fst f (rs ++ [r]) q = if 0 ≤ fst f rs q then fst f rs q else if r.1 = q ∧ holdsB r f = true then (rs.length : Int) else -1 := by
  rcases fst_cases f rs q with ⟨h1, h2⟩ | ⟨i, r', h1, h2, h3, _, h5, h6, h7⟩
  · rw [h1, if_neg (by omega)]
    by_cases hc : r.1 = q ∧ holdsB r f = true
    · rw [if_pos hc]
      exact fst_is (r := r) (by simp) hc.1 hc.2 (by rw [List.take_left' rfl]; exact h2)
    · rw [if_neg hc]
      exact fst_neg (by rw [held_more, h2, if_neg hc]; rfl)
  · rw [h1, if_pos (by omega)]
    refine fst_is (r := r') ?_ h5 h6 ?_
    · rw [List.getElem?_append_left h2]; exact h3
    · rw [List.take_append_of_le_length (by omega)]; exact h7

/-! ### only those that hold -/
theorem held_holding (f : Fc) (rs : List Rl) (q : Int) : heldK f (rs.filter fun r => holdsB r f) q = heldK f rs q := by
  unfold heldK
  rw [List.filter_filter]
  congr 1
  funext r
  cases holdsB r f <;> simp

/-! ### the least limit -/
theorem limS_pos {m : Int} {r : Rl} (h : 0 < r.2.2.2.1) : 0 < limS m r ∨ limS m r = m := by
  unfold limS; split
  · exact .inl h
  · exact .inr rfl
theorem limL_spec : ∀ (l : List Rl) (m : Int), 0 ≤ m → let v := l.foldl limS m
    0 ≤ v ∧ (v = m ∨ ∃ r ∈ l, 0 < r.2.2.2.1 ∧ v = r.2.2.2.1) ∧ (∀ r ∈ l, 0 < r.2.2.2.1 → 0 < v ∧ v ≤ r.2.2.2.1) ∧ (0 < m → 0 < v ∧ v ≤ m)
  | [], m, hm => ⟨hm, .inl rfl, (fun r hr => by cases hr), fun h => ⟨h, Int.le_refl _⟩⟩
  | r :: l, m, hm => by
    have hs : 0 ≤ limS m r := by unfold limS; split <;> omega
    obtain ⟨h1, h2, h3, h4⟩ := limL_spec l (limS m r) hs
    refine ⟨h1, ?_, ?_, ?_⟩
    · rcases h2 with h2 | ⟨r', hr', h2⟩
      · by_cases hc : 0 < r.2.2.2.1 ∧ (m = 0 ∨ r.2.2.2.1 < m)
        · right
          refine ⟨r, by simp, hc.1, ?_⟩
          show List.foldl limS (limS m r) l = _
          rw [h2]; unfold limS; rw [if_pos hc]
        · left
          show List.foldl limS (limS m r) l = _
          rw [h2]; unfold limS; rw [if_neg hc]
      · exact .inr ⟨r', by simp [hr'], h2⟩
    · intro r' hr' hp
      rcases List.mem_cons.1 hr' with rfl | hr'
      · have hs2 : 0 < limS m r' ∧ limS m r' ≤ r'.2.2.2.1 := by unfold limS; split <;> omega
        have := h4 hs2.1
        exact ⟨this.1, by show List.foldl limS (limS m r') l ≤ _; omega⟩
      · exact h3 r' hr' hp
    · intro hm2
      have hs2 : 0 < limS m r ∧ limS m r ≤ m := by unfold limS; split <;> omega
      have := h4 hs2.1
      exact ⟨this.1, by show List.foldl limS (limS m r) l ≤ _; omega⟩
end Go.Proofs.Ytmklcfmdcfbpeaa
