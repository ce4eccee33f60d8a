/- A cell of a slice of the call's own is written: what the slice then reads as. No program is named here. -/
import Derived.Test.YtecjhniomjmocaaRow
import Derived.Test.YtecjhniomjmocaaOwn
namespace Go.Proofs.Ytecjhniomjmocaa
open Go.RowKit
set_option linter.unusedVariables false
set_option linter.unusedSimpArgs false

theorem flatten_set {α : Type} {n : Nat} : ∀ {css : List (List α)} {i j : Nat} {u : α} (h : ∀ c ∈ css, c.length = n) (hi : i < css.length) (hj : j < n), (css.set i (css[i].set j u)).flatten = css.flatten.set (i * n + j) u
  | [], i, j, u, h, hi, hj => absurd hi (by simp)
  | c :: css, 0, j, u, h, hi, hj => by
    have hc := h c (List.mem_cons_self ..)
    simp only [List.set_cons_zero, List.getElem_cons_zero, List.flatten_cons, Nat.zero_mul, Nat.zero_add]
    rw [List.set_append_left _ _ (by omega)]
  | c :: css, i + 1, j, u, h, hi, hj => by
    have hc := h c (List.mem_cons_self ..)
    have ih := flatten_set (css := css) (i := i) (j := j) (u := u) (fun c hc => h c (List.mem_cons_of_mem _ hc)) (by simpa using hi) hj
    simp only [List.set_cons_succ, List.getElem_cons_succ, List.flatten_cons, ih]
    have e : (i + 1) * n + j = c.length + (i * n + j) := by rw [hc, Nat.succ_mul]; omega
    rw [List.set_append_right _ _ (by omega), e, Nat.add_sub_cancel_left]
section
variable {α : Type} {T : Ty α} {e : TypeId} {X : World} {base B : Nat} {v : Value} {qs : List α}
/-- The block of an own row that holds something. -/
theorem OwnL.block (h : OwnL T e X base B v qs) {i : Nat} (hi : i < qs.length) : ∃ g c, v = .slice (some ⟨g, 0, none⟩) qs.length c ∧ base ≤ g ∧ g < X.heap.size ∧ (∃ C, Bk X g C e) ∧ ∃ cs, T.rd X B cs qs[i] ∧ ∀ j u, cs[j]? = some u → X.cell? ⟨g, i * T.n + j, none⟩ = some u := by
  obtain ⟨css, h1, h2, h3⟩ := h
  obtain ⟨A, c, rfl, _, _⟩ := own_form h3
  obtain ⟨g, cur, rfl, k1, k2, k3, k4, k5, k6, k7⟩ := own_block h3 (by omega)
  have hn : ∀ c ∈ css, c.length = T.n := fun c hc => by
    obtain ⟨k, hk, rfl⟩ := List.mem_iff_getElem.1 hc
    exact T.len (h2 k (by omega) hk)
  refine ⟨g, c, rfl, k1, k2, ⟨cur, k3⟩, css[i]'(by omega), h2 i hi (by omega), fun j u hu => ?_⟩
  have hj : j < T.n := by
    have := (List.getElem?_eq_some_iff.1 hu).1
    rw [hn _ (List.getElem_mem _)] at this
    exact this
  have hf := flatten_at css i j _ hn (List.getElem?_eq_getElem (by omega)) hj
  rw [hu, ← k7, List.getElem?_take] at hf
  rw [k3.cell, ← Array.getElem?_toList]
  split at hf
  · exact hf
  · cases hf
theorem OwnL.setc (h : OwnL T e X base B v qs) {i : Nat} (hi : i < qs.length) {g j : Nat} {u : Value} {x : α} (hg : v.ownBlock = some g) (hj : j < T.n) (hB : B ≤ base)
    (hr : ∀ cs, T.rd X B cs qs[i] → T.rd X B (cs.set j u) x) : OwnL T e (X.setCell ⟨g, i * T.n + j, none⟩ u) base B v (qs.set i x) := by
  obtain ⟨css, h1, h2, h3⟩ := h
  have hn : ∀ c ∈ css, c.length = T.n := fun c hc => by
    obtain ⟨k, hk, rfl⟩ := List.mem_iff_getElem.1 hc
    exact T.len (h2 k (by omega) hk)
  obtain ⟨k0, ⟨rfl, hz⟩ | ⟨g', cap, cur, rfl, k1, k2, k3, k4, k5, k6⟩⟩ := h3
  · omega
  simp only [Value.ownBlock, Option.some.injEq] at hg
  subst hg
  have hb : Below B X (X.setCell ⟨g', i * T.n + j, none⟩ u) := (Below.refl _ _).setCell (by show B ≤ g'; omega) _
  have hlt : i * T.n + j < qs.length * T.n := by
    have : (i + 1) * T.n ≤ qs.length * T.n := Nat.mul_le_mul_right _ hi
    rw [Nat.succ_mul] at this
    omega
  refine ⟨css.set i ((css[i]'(by omega)).set j u), by simp [h1], fun k a b => ?_, ?_, .inr ⟨g', cap, cur.setIfInBounds (i * T.n + j) u, by simp, k1, Bk.set_ k2 _ _, by simpa using k3, k4, by simpa using k5, ?_⟩⟩
  · refine T.keep hb (Nat.le_refl _) ?_
    by_cases hk : i = k
    · subst hk
      simp only [List.getElem_set_self]
      exact hr _ (h2 i hi (by omega))
    · simp only [List.getElem_set_ne hk]
      exact h2 k (by simpa using a) (by simpa using b)
  · rw [flatten_set hn (by omega) hj, List.length_set, List.length_set]
    exact k0
  · rw [flatten_set hn (by omega) hj, List.length_set, Array.toList_setIfInBounds, ← k6, List.take_set]
theorem OwnL.start (h : base ≤ X.heap.size) : OwnL T e (X.alloc (.cells #[] e)) base B (.slice (some ⟨X.heap.size, 0, .none⟩) 0 0) ([] : List α) := ⟨[], rfl, fun i h => absurd h (by simp), own_start X base e T.n h⟩
/-- A row whose elements look at no memory, as one that may lie in another row's element. -/
theorem OwnL.toQ {E : TypeId → Prop} {rb : Nat} (hT : Flat T) (hone : ∀ w B cs x, T.rd w B cs x → ∀ u ∈ cs, u.oneCell' = true) (h : OwnL T e X base B v qs) : OwnQ T e E rb X base v qs := by
  obtain ⟨css, h1, h2, h3⟩ := h
  exact ⟨css, h1, h3, fun i a b => Rob.flat hT (h2 i a b) (hone _ _ _ _ (h2 i a b))⟩
/-- Two rows of the call's own, of different types: one grows, the other stays. -/
theorem OwnQ.keepQ {β : Type} {T2 : Ty β} {e2 : TypeId} {E E2 : TypeId → Prop} {rb rb2 base2 : Nat} {v2 : Value} {ys : List β} {X' : World} (h : OwnQ T e E rb X base v qs) (h2 : OwnQ T2 e2 E2 rb2 X base2 v2 ys) (ho : Only (fun g => v2.ownBlock = some g) X X') (hne : e2 ≠ e) (hE : E e2) (hrb : rb ≤ base2) : OwnQ T e E rb X' base v qs :=
  h.only ho (fun g hg => by
    obtain ⟨C, hC⟩ := h2.typed hg
    exact ⟨Nat.le_trans hrb (h2.lt g hg).1, C, e2, hC, hE⟩) fun g hg hs => by
    obtain ⟨C, hC⟩ := h2.typed hs
    obtain ⟨C', hC'⟩ := h.typed hg
    exact hne (bk_type hC hC')
/-- A reader by a stronger one. -/
theorem Elems.imp {T' : Ty α} {w : World} {A : Option Addr} (hn : T.n = T'.n) (hi : ∀ w B cs x, T.rd w B cs x → T'.rd w B cs x) (h : Elems T w B A qs) : Elems T' w B A qs := fun i hi' => by
  obtain ⟨b, off, cs, h1, h2, h3, h4⟩ := h i hi'
  exact ⟨b, off, cs, h1, h2, hi _ _ _ _ h3, by rw [← hn]; exact h4⟩
theorem Elems.each {w : World} {A : Option Addr} (h : Elems T w B A qs) : ∀ x ∈ qs, ∃ cs, T.rd w B cs x := fun x hx => by
  obtain ⟨i, hi, rfl⟩ := List.mem_iff_getElem.1 hx
  obtain ⟨b, off, cs, h1, h2, h3, h4⟩ := h i hi
  exact ⟨cs, h3⟩
end
end Go.Proofs.Ytecjhniomjmocaa
