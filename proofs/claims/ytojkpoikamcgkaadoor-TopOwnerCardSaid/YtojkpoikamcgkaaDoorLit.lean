/- Slice literals of whole values, and append onto a slice that is full: a new row. No program is named here. -/
import Derived.Test.YtojkpoikamcgkaaDoorArr
import Derived.Great.BuildSlice
namespace Go.Proofs.YtojkpoikamcgkaaDoor
open Go.RowKit
set_option linter.unusedVariables false
set_option linter.unusedSimpArgs false

section
variable {P : Program} {w : World} {ops : Array Oper} {rest : List Oper} {o : Oper} {a : Act} {Q : Exit → Act → World → Prop}
/-- A slice literal whose elements are values of s cells each. -/
theorem wp_lit {K : Act → World → Prop} (t e : TypeId) (len s : Nat) (parts : Array (Nat × Operand)) (ho : o.op = .buildSlice t len parts) (vs : List Value)
    (hu : P.underlying t = some (.slice e)) (hs : (P.info? e).map (fun i => (i.size, i.zero.isSome)) = some (s, true)) (hlen : vs.length = len) (hpos : 0 < len) (hs0 : 0 < s) (hsmall : len * s ≤ 2 ^ 24)
    (hp : (parts.map fun (i, x) => (i, a.eval x)).toList = (vs.zipIdx 0).map fun x => (x.2, x.1)) (hv : ∀ v ∈ vs, v.cells.size = s) (z : Value) (hzz : ((P.info? e).bind (·.zero)).map (·.cells.size) = some s)
    (h : K (a.put o.dst (.slice (some ⟨w.heap.size, 0, none⟩) len len)) (w.alloc (.cells (vs.flatMap fun v => v.cells.toList).toArray e))) : o.wp P a w K Q := by
  cases hie : P.info? e with
  | none => rw [hie] at hs; cases hs
  | some ie =>
    rw [hie] at hs hzz
    simp only [Option.map_some, Option.some.injEq, Prod.mk.injEq] at hs
    obtain ⟨h1, h2⟩ := hs
    obtain ⟨zv, hz⟩ := Option.isSome_iff_exists.1 h2
    simp only [Option.bind_some, hz, Option.map_some, Option.some.injEq] at hzz
    refine wp_buildSlice t e len parts ho _ ie zv hu hie hz (by rw [h1]; omega) (by rw [h1]; exact Nat.ne_of_gt (Nat.mul_pos hpos hs0)) ?_ h
    rw [hp, h1]
    exact Great.fill_whole hs0 vs _ hv (by simp [hlen])
theorem list_lit (hg : o.guard = none) (t e : TypeId) (len s : Nat) (parts : Array (Nat × Operand)) (ho : o.op = .buildSlice t len parts) (vs : List Value)
    (hu : P.underlying t = some (.slice e)) (hs : (P.info? e).map (fun i => (i.size, i.zero.isSome)) = some (s, true)) (hlen : vs.length = len) (hpos : 0 < len) (hs0 : 0 < s) (hsmall : len * s ≤ 2 ^ 24)
    (hp : (parts.map fun (i, x) => (i, a.eval x)).toList = (vs.zipIdx 0).map fun x => (x.2, x.1)) (hv : ∀ v ∈ vs, v.cells.size = s) (hzz : ((P.info? e).bind (·.zero)).map (·.cells.size) = some s)
    (h : wpList P ops Q rest (a.put o.dst (.slice (some ⟨w.heap.size, 0, none⟩) len len)) (w.alloc (.cells (vs.flatMap fun v => v.cells.toList).toArray e))) : wpList P ops Q (o :: rest) a w :=
  wpList_plain hg fun _ hK => wp_lit t e len s parts ho vs hu hs hlen hpos hs0 hsmall hp hv undef hzz (hK _ _ h)
/-- .. of one value. -/
theorem list_lit1 (hg : o.guard = none) (t e : TypeId) (x : Operand) (ho : o.op = .buildSlice t 1 #[(0, x)]) (cells : Array Value) (hx : a.eval x = .agg cells)
    (hu : P.underlying t = some (.slice e)) (hs : (P.info? e).map (fun i => (i.size, i.zero.isSome)) = some (cells.size, true)) (hs0 : 0 < cells.size) (hsmall : cells.size ≤ 2 ^ 24) (hzz : ((P.info? e).bind (·.zero)).map (·.cells.size) = some cells.size)
    (h : wpList P ops Q rest (a.put o.dst (.slice (some ⟨w.heap.size, 0, none⟩) 1 1)) (w.alloc (.cells cells e))) : wpList P ops Q (o :: rest) a w := by
  refine list_lit hg t e 1 cells.size _ ho [.agg cells] hu hs rfl (by omega) hs0 (by omega) (by simp [hx]) (by simp [Value.cells]) hzz ?_
  simpa [Value.cells] using h

/-- append onto a slice that is full: a new row that holds the old and the new. -/
theorem wp_append_full {K : Act → World → Prop} (s x : Operand) (t : TypeId) (ho : o.op = .call { callee := .builtin .append, args := #[s, x], argTypes := #[t, t] })
    (e : TypeId) (i : TypeInfo) (z : Value) (size bytes : Nat) (ht : P.underlying t = some (.slice e)) (hi : P.info? e = some i) (hz : i.zero = some z) (hsize : i.size = size) (hby : i.bytes = bytes)
    (b : Addr) (n : Nat) (olds : List Value) (hs : a.eval s = .slice (some b) n n) (hlo : olds.length = n * size) (holds : ∀ j v, olds[j]? = some v → w.cell? (b.add j) = some v)
    (ad : Addr) (m c : Nat) (news : List Value) (hx : a.eval x = .slice (some ad) m c) (hl : news.length = m * size) (hnews : ∀ j v, news[j]? = some v → w.cell? (ad.add j) = some v)
    (hm : 0 < m) (h63 : n + m ≤ maxLen) (hbytes : (n + m) * bytes ≤ 140737488355328)
    (N : Nat) (hN : N = n + m) (h : ∀ g c' w', w.heap.size ≤ g → g < w'.heap.size → Below w.heap.size w w' → (∀ j v, (olds ++ news)[j]? = some v → w'.cell? ⟨g, j, none⟩ = some v) → K (a.put o.dst (.slice (some ⟨g, 0, none⟩) N c')) w') : o.wp P a w K Q := by
  subst hN hsize hby
  have hrun := run_append_grow w t o.type e i z ht hi hz b n n olds hlo holds ad m c news hl hnews (by omega) (by unfold maxLen at h63; omega) (growslice_fits (by omega) hbytes)
  unfold Oper.wp execOp
  simp only [ho, resolve, invoke, builtin, Sem.run_bind, Sem.run_pure, Result.andThen_ok, List.map_toArray, List.map_cons, List.map_nil, hs, hx, hrun]
  refine h _ _ _ (Nat.le_refl _) (by simp) (Below.drew (Below.refl _ _) |>.alloc (Nat.le_refl _) _) (fun j v hv => ?_)
  have e0 : w.drew.heap.size = w.heap.size := rfl
  have hlt := (List.getElem?_eq_some_iff.1 hv).1
  simp only [World.cell?, ← e0, heap_alloc_new]
  simp only [Option.isSome_none, Bool.false_eq_true, if_false]
  rw [← hv, Array.getElem?_append_left (by simpa using hlt)]
  simp
theorem list_append_full (hw : Region.wanted o (yielded ops a.tmps) = true) (s x : Operand) (t : TypeId) (ho : o.op = .call { callee := .builtin .append, args := #[s, x], argTypes := #[t, t] })
    (e : TypeId) (i : TypeInfo) (z : Value) (size bytes : Nat) (ht : P.underlying t = some (.slice e)) (hi : P.info? e = some i) (hz : i.zero = some z) (hsize : i.size = size) (hby : i.bytes = bytes)
    (b : Addr) (n : Nat) (olds : List Value) (hs : a.eval s = .slice (some b) n n) (hlo : olds.length = n * size) (holds : ∀ j v, olds[j]? = some v → w.cell? (b.add j) = some v)
    (ad : Addr) (m c : Nat) (news : List Value) (hx : a.eval x = .slice (some ad) m c) (hl : news.length = m * size) (hnews : ∀ j v, news[j]? = some v → w.cell? (ad.add j) = some v)
    (hm : 0 < m) (h63 : n + m ≤ maxLen) (hbytes : (n + m) * bytes ≤ 140737488355328)
    (N : Nat) (hN : N = n + m) (h : ∀ g c' w', w.heap.size ≤ g → g < w'.heap.size → Below w.heap.size w w' → (∀ j v, (olds ++ news)[j]? = some v → w'.cell? ⟨g, j, none⟩ = some v) → wpList P ops Q rest (a.put o.dst (.slice (some ⟨g, 0, none⟩) N c')) w') : wpList P ops Q (o :: rest) a w := by
  unfold wpList
  rw [if_pos hw]
  exact .inl (wp_append_full s x t ho e i z size bytes ht hi hz hsize hby b n olds hs hlo holds ad m c news hx hl hnews hm h63 hbytes N hN h)
theorem step_append_full {K : Act → World → Prop} {E : Prop} (hw : Region.wanted o (yielded ops a.tmps) = true) (s x : Operand) (t : TypeId) (ho : o.op = .call { callee := .builtin .append, args := #[s, x], argTypes := #[t, t] })
    (e : TypeId) (i : TypeInfo) (z : Value) (size bytes : Nat) (ht : P.underlying t = some (.slice e)) (hi : P.info? e = some i) (hz : i.zero = some z) (hsize : i.size = size) (hby : i.bytes = bytes)
    (b : Addr) (n : Nat) (olds : List Value) (hs : a.eval s = .slice (some b) n n) (hlo : olds.length = n * size) (holds : ∀ j v, olds[j]? = some v → w.cell? (b.add j) = some v)
    (ad : Addr) (m c : Nat) (news : List Value) (hx : a.eval x = .slice (some ad) m c) (hl : news.length = m * size) (hnews : ∀ j v, news[j]? = some v → w.cell? (ad.add j) = some v)
    (hm : 0 < m) (h63 : n + m ≤ maxLen) (hbytes : (n + m) * bytes ≤ 140737488355328)
    (N : Nat) (hN : N = n + m) (h : ∀ g c' w', w.heap.size ≤ g → g < w'.heap.size → Below w.heap.size w w' → (∀ j v, (olds ++ news)[j]? = some v → w'.cell? ⟨g, j, none⟩ = some v) → K (a.put o.dst (.slice (some ⟨g, 0, none⟩) N c')) w') :
    if Region.wanted o (yielded ops a.tmps) = true then Oper.wp P o a w K Q else E := by
  rw [if_pos hw]
  exact wp_append_full s x t ho e i z size bytes ht hi hz hsize hby b n olds hs hlo holds ad m c news hx hl hnews hm h63 hbytes N hN h
end
end Go.Proofs.YtojkpoikamcgkaaDoor
