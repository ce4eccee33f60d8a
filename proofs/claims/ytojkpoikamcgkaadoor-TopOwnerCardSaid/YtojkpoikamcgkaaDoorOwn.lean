/- Slices of the call's own whose elements hold further slices of the call's own: rows kept apart by the types of their blocks. No program is named here. -/
import Derived.Test.YtojkpoikamcgkaaDoorOnly
import Derived.Test.YtojkpoikamcgkaaDoorRow
namespace Go.Proofs.YtojkpoikamcgkaaDoor
open Go.RowKit
set_option linter.unusedVariables false
set_option linter.unusedSimpArgs false

theorem bk_type {w : World} {b : Nat} {C C' : Array Value} {t t' : TypeId} (h : Bk w b C t) (h' : Bk w b C' t') : t = t' := by
  have := Option.some.inj (h.symm.trans h')
  injection this
/-- The blocks behind rb whose type is in E. -/
def InE (E : TypeId → Prop) (rb : Nat) (X : World) (g : Nat) : Prop := rb ≤ g ∧ ∃ C t, Bk X g C t ∧ E t
/-- Cells that read as x whatever is done to the blocks behind rb whose type is in E. -/
def Rob {α : Type} (T : Ty α) (E : TypeId → Prop) (rb : Nat) (X : World) (cs : List Value) (x : α) : Prop :=
  (∀ u ∈ cs, u.oneCell' = true) ∧ ∀ X', Only (InE E rb X) X X' → T.rd X' X'.heap.size cs x
section
variable {α : Type} {T : Ty α} {E E' : TypeId → Prop} {rb base : Nat} {X X' : World} {cs : List Value} {x : α} {e : TypeId} {v : Value} {xs : List α}
theorem Rob.rd (h : Rob T E rb X cs x) : T.rd X X.heap.size cs x := h.2 X (Only.refl _ _)
theorem InE.back {S : Nat → Prop} (ho : Only S X X') (hS : ∀ g, S g → InE E rb X g) {g : Nat} (h : InE E rb X' g) : InE E rb X g ∨ X.heap.size ≤ g := by
  obtain ⟨h1, C, t, h2, h3⟩ := h
  rcases Nat.lt_or_ge g X.heap.size with hlt | hge
  · left
    by_cases hs : S g
    · exact hS g hs
    · exact ⟨h1, C, t, (ho.block g hlt hs).symm.trans h2, h3⟩
  · exact .inr hge
theorem Rob.only {S : Nat → Prop} (h : Rob T E rb X cs x) (ho : Only S X X') (hS : ∀ g, S g → InE E rb X g) : Rob T E rb X' cs x :=
  ⟨h.1, fun X'' h2 => h.2 X'' ((ho.mono hS).trans' h2 fun g hg => InE.back ho hS hg)⟩
theorem Rob.below (h : Rob T E rb X cs x) (hb : Below X.heap.size X X') : Rob T E rb X' cs x := h.only (S := fun _ => False) (Only.of_below hb) (fun _ h => h.elim)
theorem Rob.mono (h : Rob T E rb X cs x) (hE : ∀ t, E' t → E t) : Rob T E' rb X cs x :=
  ⟨h.1, fun X' ho => h.2 X' (ho.mono fun g ⟨h1, C, t, h2, h3⟩ => ⟨h1, C, t, h2, hE t h3⟩)⟩
theorem Rob.old (h : T.rd X rb cs x) (h1 : ∀ u ∈ cs, u.oneCell' = true) (hb : rb ≤ X.heap.size) : Rob T E rb X cs x :=
  ⟨h1, fun X' ho => T.keep (ho.to_below (fun g hg => hg.1) hb) (Nat.le_trans hb ho.size) h⟩
theorem Rob.flat {B : Nat} (hT : Flat T) (h : T.rd X B cs x) (h1 : ∀ u ∈ cs, u.oneCell' = true) : Rob T E rb X cs x := ⟨h1, fun X' _ => hT h⟩

/-- An own row (behind base) whose elements are read so. -/
def OwnQ (T : Ty α) (e : TypeId) (E : TypeId → Prop) (rb : Nat) (X : World) (base : Nat) (v : Value) (xs : List α) : Prop :=
  ∃ css : List (List Value), css.length = xs.length ∧ X.ownsRow base e T.n v xs.length css.flatten ∧ ∀ i (h1 : i < xs.length) (h2 : i < css.length), Rob T E rb X css[i] xs[i]
theorem OwnQ.nil : OwnQ T e E rb X base (.slice .none 0 0) ([] : List α) := ⟨[], rfl, own_nil, fun i h => absurd h (by simp)⟩
theorem OwnQ.start (h : base ≤ X.heap.size) : OwnQ T e E rb (X.alloc (.cells #[] e)) base (.slice (some ⟨X.heap.size, 0, .none⟩) 0 0) ([] : List α) := ⟨[], rfl, own_start X base e T.n h, fun i h => absurd h (by simp)⟩
theorem OwnQ.form (h : OwnQ T e E rb X base v xs) : ∃ A c, v = .slice A xs.length c ∧ xs.length ≤ c ∧ c ≤ maxLen := by
  obtain ⟨css, _, h, _⟩ := h
  exact own_form h
theorem OwnQ.lt (h : OwnQ T e E rb X base v xs) : ∀ g, v.ownBlock = some g → base ≤ g ∧ g < X.heap.size := fun g hg => by
  obtain ⟨css, _, h, _⟩ := h
  exact own_lt h hg
theorem own_typedQ {w : World} {base : Nat} {e : TypeId} {size : Nat} {v : Value} {n : Nat} {xs : List Value} (h : w.ownsRow base e size v n xs) {g : Nat} (hg : v.ownBlock = some g) : ∃ C, Bk w g C e := by
  obtain ⟨_, ⟨rfl, _⟩ | ⟨g', cap, cur, rfl, _, h2, _⟩⟩ := h
  · simp [Value.ownBlock] at hg
  · simp only [Value.ownBlock, Option.some.injEq] at hg
    subst hg
    exact ⟨cur, h2⟩
theorem OwnQ.typed (h : OwnQ T e E rb X base v xs) {g : Nat} (hg : v.ownBlock = some g) : ∃ C, Bk X g C e := by
  obtain ⟨css, _, h, _⟩ := h
  exact own_typedQ h hg
theorem OwnQ.only {S : Nat → Prop} (h : OwnQ T e E rb X base v xs) (ho : Only S X X') (hS : ∀ g, S g → InE E rb X g) (hn : ∀ g, v.ownBlock = some g → ¬ S g) : OwnQ T e E rb X' base v xs := by
  obtain ⟨css, h1, h2, h3⟩ := h
  exact ⟨css, h1, own_only h2 ho hn, fun i a b => (h3 i a b).only ho hS⟩
theorem OwnQ.below (h : OwnQ T e E rb X base v xs) (hb : Below X.heap.size X X') : OwnQ T e E rb X' base v xs :=
  h.only (S := fun _ => False) (Only.of_below hb) (fun _ h => h.elim) (fun _ _ h => h)
/-- A cell of another block, of a type that E allows, is written. -/
theorem OwnQ.set_ (h : OwnQ T e E rb X base v xs) {g : Nat} {C : Array Value} {t : TypeId} (hb : Bk X g C t) (hrb : rb ≤ g) (hE : E t) (hne : t ≠ e) (i : Nat) (u : Value) : OwnQ T e E rb (X.setCell ⟨g, i, .none⟩ u) base v xs :=
  h.only (S := fun b => b = g) ((Only.refl (fun b => b = g) X).set_ (p := ⟨g, i, .none⟩) (.inl rfl) u) (fun b hb' => by subst hb'; exact ⟨hrb, C, t, hb, hE⟩) (fun b hb' hs => by
    subst hs
    obtain ⟨C', h'⟩ := h.typed hb'
    exact hne (bk_type hb h'))
theorem OwnQ.weaken (h : OwnQ T e E rb X base v xs) {b2 : Nat} (hb : b2 ≤ base) : OwnQ T e E rb X b2 v xs := by
  obtain ⟨css, h1, h2, h3⟩ := h
  refine ⟨css, h1, ⟨h2.1, h2.2.imp id ?_⟩, h3⟩
  rintro ⟨g, cap, cur, e1, e2, e3⟩
  exact ⟨g, cap, cur, e1, by omega, e3⟩
theorem OwnQ.elems {A : Option Addr} {n c : Nat} (h : OwnQ T e E rb X base (.slice A n c) xs) : Elems T X X.heap.size A xs := by
  obtain ⟨css, h1, h2, h3⟩ := h
  rcases Nat.eq_zero_or_pos xs.length with h0 | h0
  · have : xs = [] := List.eq_nil_of_length_eq_zero h0
    subst this
    exact Elems.nil
  · have hn : n = xs.length := by
      obtain ⟨A', c', e1, _, _⟩ := own_form h2
      injection e1
    subst hn
    obtain ⟨g, cur, rfl, hg1, hg2, _⟩ := own_block h2 h0
    exact own_elems h2 hg2 h1 fun i hi => (h3 i hi (by omega)).rd
/-- Such a row is itself an element of another one. -/
theorem OwnQ.rob {A : Option Addr} {n c : Nat} (h : OwnQ T e E rb X base (.slice A n c) xs) (hE : ∀ t, E' t → E t) (he : ¬ E' e) : Rob (tSlice T) E' rb X [.slice A n c] xs := by
  obtain ⟨A', c', e1, h1, h2⟩ := h.form
  injection e1 with a1 a2 a3
  subst a1
  subst a2
  subst a3
  refine ⟨fun u hu => by rw [List.mem_singleton] at hu; subst hu; rfl, fun X' ho => ?_⟩
  have h' : OwnQ T e E rb X' base (.slice A xs.length c) xs := h.only ho (fun g ⟨h1, C, t, h2, h3⟩ => ⟨h1, C, t, h2, hE t h3⟩) fun g hg ⟨h1, C, t, h2, h3⟩ => by
    obtain ⟨C', h'⟩ := h.typed hg
    obtain rfl := bk_type h2 h'
    exact he h3
  exact ⟨A, c, rfl, h1, h2, h'.elems⟩
end
section
variable {P : Program} {ops : Array Oper} {rest : List Oper} {o : Oper} {a : Act} {Q : Exit → Act → World → Prop}
variable {α : Type} {T : Ty α} {E : TypeId → Prop} {rb base : Nat} {X : World} {e : TypeId} {v : Value} {xs : List α}
/-- append of one element whose cells lie behind an address. -/
theorem list_appendQ (hgd : o.guard = none) (s x : Operand) (t : TypeId) (ho : o.op = .call { callee := .builtin .append, args := #[s, x], argTypes := #[t, t] }) (bytes : Nat)
    (ht : P.underlying t = some (.slice e)) (hi : (P.info? e).map (fun i => (i.size, i.bytes, i.zero.map fun z => z.cells.size)) = some (T.n, bytes, some T.n)) (hsz : 0 < T.n)
    (hs : a.eval s = v) (hown : OwnQ T e E rb X base v xs) (A : Option Addr) (c : Nat) (cs : List Value) (q : α) (hx : a.eval x = .slice A 1 c) (hq : Rob T E rb X cs q) (hsrc : Lies X A 1 cs)
    (hE : E e) (hrb : rb ≤ base) (h63 : xs.length + 1 ≤ maxLen) (hbytes : (xs.length + 1) * bytes ≤ 140737488355328) (hbase : base ≤ X.heap.size)
    (h : ∀ A' c' w', OwnQ T e E rb w' base (.slice A' (xs.length + 1) c') (xs ++ [q]) → Below base X w' → Only (fun g => v.ownBlock = some g) X w' → wpList P ops Q rest (a.put o.dst (.slice A' (xs.length + 1) c')) w') : wpList P ops Q (o :: rest) a X := by
  obtain ⟨css, q1, q2, q3⟩ := hown
  obtain ⟨i, z, i1, i2, i3, i4, i5⟩ := info_of hi
  have hlc : cs.length = T.n := T.len hq.rd
  refine list_append2 hgd s x t ho base e i z T.n bytes ht i1 i2 i3 i4 i5 hsz xs.length css.flatten hs q2 A 1 c cs hx (by omega) hsrc hq.1 h63 hbytes hbase (xs.length + 1) (css ++ [cs]).flatten rfl (by simp) ?_
  intro A' c' w' g1 g2 g3 g4
  have ho : Only (fun g => v.ownBlock = some g) X w' := (Only.refl _ _).grown g3 (fun g e => .inl e)
  have hS : ∀ g, v.ownBlock = some g → InE E rb X g := fun g hg => by
    obtain ⟨C, hC⟩ := own_typedQ q2 hg
    exact ⟨Nat.le_trans hrb (own_lt q2 hg).1, C, e, hC, hE⟩
  refine h A' c' w' ⟨css ++ [cs], by simp [q1], by simpa using g1, fun i a1 a2 => ?_⟩ g2 ho
  by_cases hlt : i < xs.length
  · rw [List.getElem_append_left (by omega), List.getElem_append_left (by omega)]
    exact (q3 i hlt (by omega)).only ho hS
  · have : i = xs.length := by simp at a1; omega
    subst this
    rw [List.getElem_append_right (by omega), List.getElem_append_right (by omega)]
    simpa [q1] using hq.only ho hS
end
end Go.Proofs.YtojkpoikamcgkaaDoor
