/- Maps with keys of an integer type and values of any kind (functions): what a call's own map holds, entry by entry. No program is named here. -/
import Derived.Test.YtecjhniomjmocaaMap
import Derived.MapKept
namespace Go.Proofs.Ytecjhniomjmocaa
open Go.RowKit Go.Maps
set_option linter.unusedVariables false
set_option linter.unusedSimpArgs false

/-- Block b is a map with int keys that holds just these, in this order. -/
def IntMap (w : World) (b : Nat) (l : List (Int × Value)) : Prop :=
  ∃ es clock, w.heap[b]? = some (.map es clock) ∧ es.toList.map (fun e => (e.key, e.val)) = l.map fun p => (.int .i64 p.1, p.2)
def findI (k : Int) : List (Int × Value) → Option Value
  | [] => none
  | p :: l => if k = p.1 then some p.2 else findI k l
section
variable {P : Program} {w w' : World} {b : Nat} {l : List (Int × Value)} {kt t e : TypeId}
theorem IntMap.lt (h : IntMap w b l) : b < w.heap.size := by
  obtain ⟨es, c, h, _⟩ := h
  rcases Nat.lt_or_ge b w.heap.size with h' | h'
  · exact h'
  · rw [Array.getElem?_eq_none h'] at h; cases h
theorem IntMap.only {S : Nat → Prop} (h : IntMap w b l) (ho : Only S w w') (hn : ¬ S b) : IntMap w' b l := by
  have hl := h.lt
  obtain ⟨es, c, h, h2⟩ := h
  exact ⟨es, c, (ho.block b hl hn).trans h, h2⟩
theorem IntMap.below (h : IntMap w b l) (hb : Below w.heap.size w w') : IntMap w' b l := h.only (Only.of_below (S := fun _ => False) hb) (fun h => h)
theorem IntMap.new (w : World) : IntMap (w.alloc (.map #[] 0)) w.heap.size [] := ⟨#[], 0, heap_alloc_new w _, rfl⟩

theorem findNow_int (k : Int) : ∀ (es : List MapEntry) (l : List (Int × Value)) (i : Nat), es.map (fun e => (e.key, e.val)) = (l.map fun p => (Value.int .i64 p.1, p.2)) →
    ∃ r, Instr.findNow (.int .i64) (.int .i64 k) es i = some r ∧ r.map (·.2) = findI k l ∧ (findI k l = none → r = none)
  | [], [], i, _ => ⟨none, rfl, rfl, fun _ => rfl⟩
  | [], p :: l, i, h => by simp at h
  | e :: es, [], i, h => by simp at h
  | e :: es, p :: l, i, h => by
    simp only [List.map_cons, List.cons.injEq, Prod.mk.injEq] at h
    obtain ⟨⟨h1, h2⟩, h3⟩ := h
    unfold Instr.findNow
    rw [h1]
    simp only [Instr.sameNow, if_true]
    by_cases hk : k = p.1
    · subst hk
      simp only [beq_self_eq_true]
      exact ⟨_, rfl, by simp [findI, h2], by simp [findI]⟩
    · have hb : (k == p.1) = false := by simpa using hk
      simp only [hb]
      obtain ⟨r, r1, r2, r3⟩ := findNow_int k es l (i + 1) h3
      refine ⟨r, r1, by rw [r2]; simp [findI, hk], fun h => r3 (by simpa [findI, hk] using h)⟩
theorem check_int (hk : P.underlying kt = some (.int .i64)) (emp : Bool) (v : Value) (w : World) : (Instr.checkKey emp 10000 kt v).run P w = .ok () w := by
  unfold Instr.checkKey
  rw [Sem.run_bind, run_underlying hk w]
  simp

theorem IntMap.look (h : IntMap w b l) (ht : P.underlying t = some (.map kt e)) (hk : P.underlying kt = some (.int .i64)) {z : Value} (hz : (zeroValue e).run P w = .ok z w) (k : Int) :
    (Instr.lookup t (.map (some b)) (.int .i64 k) false).run P w = .ok ((findI k l).getD z) w := by
  obtain ⟨es, c, h1, h2⟩ := h
  obtain ⟨r, r1, r2, r3⟩ := findNow_int k es.toList l 0 h2
  have hf : (Instr.findKey kt (.int .i64 k) es.toList).run P w = .ok r w := MapKept.run_findKey hk r1
  unfold Instr.lookup
  simp only [Sem.run_bind, run_underlying ht w, Result.andThen_ok]
  cases hr : r with
  | none =>
    rw [hr] at r2 hf
    have : findI k l = none := by simpa using r2.symm
    rw [this]
    simp [Sem.run_bind, MapKept.run_getObj_map h1, check_int hk, hf, hz]
  | some p =>
    rw [hr] at r2 hf
    have : findI k l = some p.2 := by simpa using r2.symm
    rw [this]
    simp [Sem.run_bind, MapKept.run_getObj_map h1, check_int hk, hf]
theorem IntMap.put (h : IntMap w b l) (ht : P.underlying t = some (.map kt e)) (hk : P.underlying kt = some (.int .i64)) (k : Int) (hn : findI k l = none) (v : Value) :
    ∃ w', (Instr.mapUpdate t (.map (some b)) (.int .i64 k) v).run P w = .ok () w' ∧ IntMap w' b (l ++ [(k, v)]) ∧ Only (fun g => g = b) w w' := by
  have hlt := h.lt
  obtain ⟨es, c, h1, h2⟩ := h
  obtain ⟨r, r1, r2, r3⟩ := findNow_int k es.toList l 0 h2
  have hr := r3 hn
  subst hr
  have hf : (Instr.findKey kt (.int .i64 k) es.toList).run P w = .ok none w := MapKept.run_findKey hk r1
  refine ⟨{ w with heap := w.heap.setIfInBounds b (.map (es.push { key := .int .i64 k, val := v, born := c }) (c + 1)) }, ?_, ?_, ?_⟩
  · unfold Instr.mapUpdate
    simp [Sem.run_bind, run_underlying ht w, MapKept.run_getObj_map h1, check_int hk, hf, MapKept.run_setObj_map _ h1]
  · refine ⟨es.push { key := .int .i64 k, val := v, born := c }, c + 1, by simp [hlt], ?_⟩
    simp [h2]
  · exact ⟨rfl, rfl, rfl, by simp, fun g hg hn => by
      have : b ≠ g := fun e => hn e.symm
      simp [this]⟩
end
section
variable {P : Program} {w : World} {ops : Array Oper} {rest : List Oper} {o : Oper} {a : Act} {Q : Exit → Act → World → Prop} {b : Nat} {l : List (Int × Value)} {kt t e : TypeId}
theorem list_findI (hg : o.guard = none) (mm x : Operand) (t : TypeId) (hop : o.op = Op.lookup t mm x false) (kt e : TypeId) (ht : P.underlying t = some (.map kt e)) (hk : P.underlying kt = some (.int .i64)) (z : Value) (hz : (zeroValue e).run P w = .ok z w)
    (hm : a.eval mm = .map (some b)) (h : IntMap w b l) (k : Int) (hx : a.eval x = .int .i64 k) (hK : wpList P ops Q rest (a.put o.dst ((findI k l).getD z)) w) : wpList P ops Q (o :: rest) a w := by
  refine wpList_plain hg fun K' hK' => ?_
  have hrun := h.look ht hk hz k
  unfold Oper.wp
  simp [execOp, hop, hm, hx, hrun, Result.andThen]
  exact hK' _ _ hK
theorem list_putI (hg : o.guard = none) (mm x v : Operand) (t : TypeId) (hop : o.op = Op.insert t mm x v) (kt e : TypeId) (ht : P.underlying t = some (.map kt e)) (hk : P.underlying kt = some (.int .i64))
    (hm : a.eval mm = .map (some b)) (h : IntMap w b l) (k : Int) (hx : a.eval x = .int .i64 k) (hn : findI k l = none) (y : Value) (hy : a.eval v = y)
    (hK : ∀ w', IntMap w' b (l ++ [(k, y)]) → Only (fun g => g = b) w w' → wpList P ops Q rest (a.put o.dst undef) w') : wpList P ops Q (o :: rest) a w := by
  refine wpList_plain hg fun K' hK' => ?_
  obtain ⟨w', hrun, h1, h2⟩ := h.put ht hk k hn y
  unfold Oper.wp
  simp [execOp, hop, hm, hx, hy, hrun, Result.andThen]
  exact hK' _ _ (hK w' h1 h2)
end
end Go.Proofs.Ytecjhniomjmocaa
