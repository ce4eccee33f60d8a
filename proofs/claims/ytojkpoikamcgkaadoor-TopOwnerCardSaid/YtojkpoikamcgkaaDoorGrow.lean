/- append onto a slice of the call's own, of elements that look at rows made behind it. No program is named here. -/
import Derived.Test.YtojkpoikamcgkaaDoorRow
namespace Go.Proofs.YtojkpoikamcgkaaDoor
open Go.RowKit
set_option linter.unusedVariables false
set_option linter.unusedSimpArgs false

section
variable {P : Program} {ops : Array Oper} {rest : List Oper} {o : Oper} {a : Act} {Q : Exit → Act → World → Prop}
variable {α : Type} {T : Ty α} {e : TypeId} {X X' : World} {base B : Nat} {v : Value} {qs : List α}
/-- An own row that reads as a list, with some more cells behind it. -/
def OwnP {α : Type} (T : Ty α) (e : TypeId) (X : World) (base B : Nat) (v : Value) (qs : List α) (css : List (List Value)) : Prop :=
  ∃ qcs : List (List Value), qcs.length = qs.length ∧ (∀ i (h1 : i < qs.length) (h2 : i < qcs.length), T.rd X B qcs[i] qs[i]) ∧ X.ownsRow base e T.n v (qs.length + css.length) (qcs ++ css).flatten
theorem OwnP.only {S : Nat → Prop} {css : List (List Value)} (h : OwnP T e X base B v qs css) (ho : Only S X X') (hS : ∀ g, S g → B ≤ g) (hB : B ≤ X.heap.size) (hn : ∀ g, v.ownBlock = some g → ¬ S g) : OwnP T e X' base B v qs css := by
  obtain ⟨qcs, h1, h2, h3⟩ := h
  exact ⟨qcs, h1, fun i a b => T.keep (ho.to_below hS hB) (Nat.le_refl _) (h2 i a b), own_only h3 ho hn⟩
theorem OwnP.lt {css : List (List Value)} (h : OwnP T e X base B v qs css) : ∀ g, v.ownBlock = some g → base ≤ g ∧ g < X.heap.size := fun g hg => by
  obtain ⟨qcs, _, _, h3⟩ := h
  exact own_lt h3 hg
theorem OwnP.to {B2 : Nat} {css : List (List Value)} {ns : List α} (h : OwnP T e X base B v qs css) (hns : ns.length = css.length) (hr : ∀ i (h1 : i < ns.length) (h2 : i < css.length), T.rd X B2 css[i] ns[i]) (hB : B ≤ B2) : OwnL T e X base B2 v (qs ++ ns) := by
  obtain ⟨qcs, q1, q2, h3⟩ := h
  refine ⟨qcs ++ css, by simp [q1, hns], fun k k1 k2 => ?_, ?_⟩
  · by_cases hk : k < qs.length
    · rw [List.getElem_append_left (by omega), List.getElem_append_left hk]
      exact T.keep (Below.refl _ _) hB (q2 k hk (by omega))
    · rw [List.getElem_append_right (by omega), List.getElem_append_right (by omega)]
      have e1 : k - qcs.length = k - qs.length := by rw [q1]
      simp only [e1]
      exact hr (k - qs.length) (by simp at k1; omega) (by simp at k2; omega)
  · rw [List.length_append, hns]
    exact h3
theorem list_appendN (hgd : o.guard = none) (s x : Operand) (t : TypeId) (ho : o.op = .call { callee := .builtin .append, args := #[s, x], argTypes := #[t, t] }) (bytes : Nat)
    (ht : P.underlying t = some (.slice e)) (hi : (P.info? e).map (fun i => (i.size, i.bytes, i.zero.map fun z => z.cells.size)) = some (T.n, bytes, some T.n)) (hsz : 0 < T.n)
    (hs : a.eval s = v) (hown : OwnL T e X base B v qs) (A : Option Addr) (m c : Nat) (css : List (List Value)) (hx : a.eval x = .slice A m c) (hl : css.length = m)
    (hn : ∀ c ∈ css, c.length = T.n) (hone : ∀ c ∈ css, ∀ u ∈ c, u.oneCell' = true)
    (hsrc : Lies X A m css.flatten) (h63 : qs.length + m ≤ maxLen) (hbytes : (qs.length + m) * bytes ≤ 140737488355328) (hbase : base ≤ X.heap.size) (hB : B ≤ base)
    (h : ∀ A' c' w', OwnP T e w' base B (.slice A' (qs.length + m) c') qs css → Below base X w' → X.grownBy w' v.ownBlock → wpList P ops Q rest (a.put o.dst (.slice A' (qs.length + m) c')) w') : wpList P ops Q (o :: rest) a X := by
  obtain ⟨qcs, q1, q2, q3⟩ := hown
  obtain ⟨i, z, i1, i2, i3, i4, i5⟩ := info_of hi
  refine list_append2 hgd s x t ho base e i z T.n bytes ht i1 i2 i3 i4 i5 hsz qs.length qcs.flatten hs q3 A m c css.flatten hx (by rw [flatten_len css hn, hl]) hsrc
    (fun u hu => by obtain ⟨c, hc, huc⟩ := List.mem_flatten.1 hu; exact hone c hc u huc) h63 hbytes hbase (qs.length + m) (qcs.flatten ++ css.flatten) rfl rfl ?_
  intro A' c' w' h2 h3 h4 h5
  refine h A' c' w' ⟨qcs, q1, fun k k1 k2 => T.keep (h3.mono hB) (Nat.le_refl _) (q2 k k1 k2), ?_⟩ h3 h4
  rw [List.flatten_append, hl]
  exact h2
/-- An own row, looked at with a farther bound. -/
theorem OwnL.wide {B2 : Nat} (h : OwnL T e X base B v qs) (hB : B ≤ B2) : OwnL T e X base B2 v qs := by
  obtain ⟨css, h1, h2, h3⟩ := h
  exact ⟨css, h1, fun i a b => T.keep (Below.refl _ _) hB (h2 i a b), h3⟩
end
end Go.Proofs.YtojkpoikamcgkaaDoor
