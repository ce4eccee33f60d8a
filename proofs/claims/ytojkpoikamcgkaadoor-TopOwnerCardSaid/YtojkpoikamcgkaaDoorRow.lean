/- A slice of the call's own, grown by append, whose elements read as a list; a whole value read in a quiet walk. No program is named here. -/
import Derived.Test.YtojkpoikamcgkaaDoorLit
namespace Go.Proofs.YtojkpoikamcgkaaDoor
open Go.RowKit
set_option linter.unusedVariables false
set_option linter.unusedSimpArgs false

section
variable {P : Program} {ops : Array Oper} {rest : List Oper} {o : Oper} {a : Act} {Q : Exit → Act → World → Prop}
/-- A struct or array read whole in a quiet walk, its cells known as a list in every world of the class. -/
theorem quiet_load_at {K : Act → Prop} {C : World → Prop} (ty : TypeId) (x : Operand) (ho : o.op = .load ty x) (b off : Nat) (hx : a.eval x = .pointer (some ⟨b, off, none⟩)) (cs : Array Value) (d : TypeDesc) (hc : ∀ w, C w → ∀ j u, cs[j]? = some u → w.cell? ⟨b, off + j, none⟩ = some u)
    (hu : P.underlying ty = some d) (hd : (match d with | .struct _ | .array _ _ => true | _ => false) = true) (hi : (P.info? ty).map (·.size) = some cs.size) (h : K (a.put o.dst (.agg cs))) : o.quiet P a C K := by
  refine ⟨.agg cs, fun w hC => ?_, h⟩
  unfold Oper.quietAt execOp
  simp only [ho, hx, Instr.loadAt, Instr.sureAddr, Sem.run_bind, Sem.run_pure, Result.andThen_ok, run_loadVar_at (hc w hC) hu hd hi]
  exact ⟨rfl, rfl⟩

/-- A slice literal of one value, under a guard that is met. -/
theorem list_lit1w {w : World} (hw : Region.wanted o (yielded ops a.tmps) = true) (t e : TypeId) (x : Operand) (ho : o.op = .buildSlice t 1 #[(0, x)]) (cells : Array Value) (hx : a.eval x = .agg cells)
    (hu : P.underlying t = some (.slice e)) (hs : (P.info? e).map (fun i => (i.size, i.zero.isSome)) = some (cells.size, true)) (hs0 : 0 < cells.size) (hsmall : cells.size ≤ 2 ^ 24) (hzz : ((P.info? e).bind (·.zero)).map (·.cells.size) = some cells.size)
    (h : wpList P ops Q rest (a.put o.dst (.slice (some ⟨w.heap.size, 0, none⟩) 1 1)) (w.alloc (.cells cells e))) : wpList P ops Q (o :: rest) a w := by
  unfold wpList
  rw [if_pos hw]
  refine .inl (wp_lit t e 1 cells.size _ ho [.agg cells] hu hs rfl (by omega) hs0 (by omega) (by simp [hx]) (by simp [Value.cells]) undef hzz ?_)
  simpa [Value.cells] using h
/-- A slice literal of two values of s cells each. -/
theorem list_lit2 {w : World} (hg : o.guard = none) (t e : TypeId) (x y : Operand) (ho : o.op = .buildSlice t 2 #[(0, x), (1, y)]) (s : Nat) (c1 c2 : Array Value) (hx : a.eval x = .agg c1) (hy : a.eval y = .agg c2) (h1 : c1.size = s) (h2 : c2.size = s)
    (hu : P.underlying t = some (.slice e)) (hs : (P.info? e).map (fun i => (i.size, i.zero.isSome)) = some (s, true)) (hs0 : 0 < s) (hsmall : 2 * s ≤ 2 ^ 24) (hzz : ((P.info? e).bind (·.zero)).map (·.cells.size) = some s)
    (h : wpList P ops Q rest (a.put o.dst (.slice (some ⟨w.heap.size, 0, none⟩) 2 2)) (w.alloc (.cells (c1.toList ++ c2.toList).toArray e))) : wpList P ops Q (o :: rest) a w := by
  refine list_lit hg t e 2 s _ ho [.agg c1, .agg c2] hu hs rfl (by omega) hs0 hsmall (by simp [hx, hy]) (by
    intro v hv
    simp only [List.mem_cons, List.not_mem_nil, or_false] at hv
    rcases hv with rfl | rfl
    · exact h1
    · exact h2) hzz ?_
  simpa [Value.cells] using h

/-- In the world X, the value v is a slice of the call's own (its row lies behind 'base'), and its elements read as qs; they look at nothing at or behind B. -/
def OwnL {α : Type} (T : Ty α) (e : TypeId) (X : World) (base B : Nat) (v : Value) (qs : List α) : Prop :=
  ∃ css : List (List Value), css.length = qs.length ∧ (∀ i (h1 : i < qs.length) (h2 : i < css.length), T.rd X B css[i] qs[i]) ∧ X.ownsRow base e T.n v qs.length css.flatten
variable {α : Type} {T : Ty α} {e : TypeId} {X X' : World} {base B : Nat} {v : Value} {qs : List α}
theorem OwnL.nil : OwnL T e X base B (.slice .none 0 0) ([] : List α) := ⟨[], rfl, fun i h => absurd h (by simp), own_nil⟩
theorem OwnL.form (h : OwnL T e X base B v qs) : ∃ A c, v = .slice A qs.length c ∧ qs.length ≤ c ∧ c ≤ maxLen := by
  obtain ⟨css, _, _, h3⟩ := h
  exact own_form h3
theorem OwnL.lt (h : OwnL T e X base B v qs) : ∀ g, v.ownBlock = some g → base ≤ g ∧ g < X.heap.size := fun g hg => by
  obtain ⟨css, _, _, h3⟩ := h
  exact own_lt h3 hg
theorem OwnL.only {S : Nat → Prop} (h : OwnL T e X base B v qs) (ho : Only S X X') (hS : ∀ g, S g → B ≤ g) (hB : B ≤ X.heap.size) (hn : ∀ g, v.ownBlock = some g → ¬ S g) : OwnL T e X' base B v qs := by
  obtain ⟨css, h1, h2, h3⟩ := h
  exact ⟨css, h1, fun i a b => T.keep (ho.to_below hS hB) (Nat.le_refl _) (h2 i a b), own_only h3 ho hn⟩
theorem OwnL.below (h : OwnL T e X base B v qs) (hb : Below X.heap.size X X') (hB : B ≤ X.heap.size) : OwnL T e X' base B v qs :=
  h.only (Only.of_below (S := fun _ => False) hb) (fun _ h => h.elim) hB (fun _ _ h => h)
theorem OwnL.elems {A : Option Addr} {n c : Nat} {B2 : Nat} (h : OwnL T e X base B (.slice A n c) qs) (hB : B ≤ B2) (h2 : X.heap.size ≤ B2) : Elems T X B2 A qs := by
  obtain ⟨css, h1, h2', h3⟩ := h
  rcases Nat.eq_zero_or_pos qs.length with h0 | h0
  · have : qs = [] := List.eq_nil_of_length_eq_zero h0
    subst this
    exact Elems.nil
  · have hn : n = qs.length := by
      obtain ⟨A', c', e1, _, _⟩ := own_form h3
      injection e1
    subst hn
    obtain ⟨g, cur, rfl, hg1, hg2, _⟩ := own_block h3 h0
    exact own_elems h3 (by omega) h1 fun i hi => T.keep (Below.refl _ _) hB (h2' i hi (by omega))

/-- append, of elements whose cells lie behind an address. -/
theorem list_appendL (hgd : o.guard = none) (s x : Operand) (t : TypeId) (ho : o.op = .call { callee := .builtin .append, args := #[s, x], argTypes := #[t, t] }) (bytes : Nat)
    (ht : P.underlying t = some (.slice e)) (hi : (P.info? e).map (fun i => (i.size, i.bytes, i.zero.map fun z => z.cells.size)) = some (T.n, bytes, some T.n)) (hsz : 0 < T.n) (hone : ∀ w B cs x, T.rd w B cs x → ∀ u ∈ cs, u.oneCell' = true)
    (hs : a.eval s = v) (hown : OwnL T e X base B v qs) (A : Option Addr) (m c : Nat) (ns : List α) (css : List (List Value)) (hx : a.eval x = .slice A m c) (hm : ns.length = m) (hl : css.length = m) (hr : ∀ i (h1 : i < ns.length) (h2 : i < css.length), T.rd X B css[i] ns[i])
    (hsrc : Lies X A m css.flatten) (h63 : qs.length + m ≤ maxLen) (hbytes : (qs.length + m) * bytes ≤ 140737488355328) (hbase : base ≤ X.heap.size) (hB : B ≤ base)
    (h : ∀ A' c' w', OwnL T e w' base B (.slice A' (qs.length + m) c') (qs ++ ns) → Below base X w' → X.grownBy w' v.ownBlock → (A'.map (·.block) = v.ownBlock ∨ A'.map (·.block) = some X.heap.size) → wpList P ops Q rest (a.put o.dst (.slice A' (qs.length + m) c')) w') : wpList P ops Q (o :: rest) a X := by
  obtain ⟨qcs, q1, q2, q3⟩ := hown
  obtain ⟨i, z, i1, i2, i3, i4, i5⟩ := info_of hi
  have hn : ∀ c ∈ css, c.length = T.n := fun c hc => by
    obtain ⟨k, hk, rfl⟩ := List.mem_iff_getElem.1 hc
    exact T.len (hr k (by omega) hk)
  refine list_append2 hgd s x t ho base e i z T.n bytes ht i1 i2 i3 i4 i5 hsz qs.length qcs.flatten hs q3 A m c css.flatten hx (by rw [flatten_len css hn, hl]) hsrc
    (one_flat (T := T) (w := X) (B := B) (fun cs x h => hone X B cs x h) (by omega) hr) h63 hbytes hbase (qs.length + m) (qcs.flatten ++ css.flatten) rfl rfl ?_
  intro A' c' w' h2 h3 h4 h5
  refine h A' c' w' ⟨qcs ++ css, by simp [q1, hl, hm], fun k k1 k2 => ?_, ?_⟩ h3 h4 h5
  · by_cases hk : k < qs.length
    · rw [List.getElem_append_left (by omega), List.getElem_append_left hk]
      exact T.keep (h3.mono hB) (Nat.le_refl _) (q2 k hk (by omega))
    · rw [List.getElem_append_right (by omega), List.getElem_append_right (by omega)]
      have e1 : k - qcs.length = k - qs.length := by rw [q1]
      simp only [e1]
      exact T.keep (h3.mono hB) (Nat.le_refl _) (hr (k - qs.length) (by simp at k1; omega) (by simp at k2; omega))
  · rw [List.flatten_append, List.length_append, hm]
    exact h2
end
end Go.Proofs.YtojkpoikamcgkaaDoor
