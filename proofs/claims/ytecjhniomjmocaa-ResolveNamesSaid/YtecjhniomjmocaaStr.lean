/- Maps with string keys and values of any kind: what a call's own map holds, entry by entry. No program is named here. -/
import Derived.Test.YtecjhniomjmocaaFun
namespace Go.Proofs.Ytecjhniomjmocaa
open Go.RowKit Go.Maps
set_option linter.unusedVariables false
set_option linter.unusedSimpArgs false

/-- Block b is a map with int keys that holds just these, in this order. -/
def StrMap (w : World) (b : Nat) (l : List (ByteArray × Value)) : Prop :=
  ∃ es clock, w.heap[b]? = some (.map es clock) ∧ es.toList.map (fun e => (e.key, e.val)) = l.map fun p => (.string p.1, p.2)
def findS (k : ByteArray) : List (ByteArray × Value) → Option Value
  | [] => none
  | p :: l => if k = p.1 then some p.2 else findS k l
section
variable {P : Program} {w w' : World} {b : Nat} {l : List (ByteArray × Value)} {kt t e : TypeId}
theorem StrMap.lt (h : StrMap w b l) : b < w.heap.size := by
  obtain ⟨es, c, h, _⟩ := h
  rcases Nat.lt_or_ge b w.heap.size with h' | h'
  · exact h'
  · rw [Array.getElem?_eq_none h'] at h; cases h
theorem StrMap.only {S : Nat → Prop} (h : StrMap w b l) (ho : Only S w w') (hn : ¬ S b) : StrMap w' b l := by
  have hl := h.lt
  obtain ⟨es, c, h, h2⟩ := h
  exact ⟨es, c, (ho.block b hl hn).trans h, h2⟩
theorem StrMap.below (h : StrMap w b l) (hb : Below w.heap.size w w') : StrMap w' b l := h.only (Only.of_below (S := fun _ => False) hb) (fun h => h)
theorem StrMap.new (w : World) : StrMap (w.alloc (.map #[] 0)) w.heap.size [] := ⟨#[], 0, heap_alloc_new w _, rfl⟩

theorem beq_bytes (a b : ByteArray) : (a == b) = decide (a = b) := by
  obtain ⟨x⟩ := a
  obtain ⟨y⟩ := b
  show (x == y) = _
  by_cases h : x = y
  · subst h; simp
  · simp [h]
theorem findNow_str (k : ByteArray) : ∀ (es : List MapEntry) (l : List (ByteArray × Value)) (i : Nat), es.map (fun e => (e.key, e.val)) = (l.map fun p => (Value.string p.1, p.2)) →
    ∃ r, Instr.findNow .string (.string k) es i = some r ∧ r.map (·.2) = findS k l ∧ (findS k l = none → r = none)
  | [], [], i, _ => ⟨none, rfl, rfl, fun _ => rfl⟩
  | [], p :: l, i, h => by simp at h
  | e :: es, [], i, h => by simp at h
  | e :: es, p :: l, i, h => by
    simp only [List.map_cons, List.cons.injEq, Prod.mk.injEq] at h
    obtain ⟨⟨h1, h2⟩, h3⟩ := h
    unfold Instr.findNow
    rw [h1]
    simp only [Instr.sameNow]
    by_cases hk : k = p.1
    · subst hk
      rw [beq_bytes, decide_eq_true rfl]
      simp only
      exact ⟨_, rfl, by simp [findS, h2], by simp [findS]⟩
    · have hb : (k == p.1) = false := by rw [beq_bytes, decide_eq_false hk]
      simp only [hb]
      obtain ⟨r, r1, r2, r3⟩ := findNow_str k es l (i + 1) h3
      refine ⟨r, r1, by rw [r2]; simp [findS, hk], fun h => r3 (by simpa [findS, hk] using h)⟩
theorem check_str (hk : P.underlying kt = some .string) (emp : Bool) (v : Value) (w : World) : (Instr.checkKey emp 10000 kt v).run P w = .ok () w := by
  unfold Instr.checkKey
  rw [Sem.run_bind, run_underlying hk w]
  simp

theorem StrMap.look (h : StrMap w b l) (ht : P.underlying t = some (.map kt e)) (hk : P.underlying kt = some .string) {z : Value} (hz : (zeroValue e).run P w = .ok z w) (k : ByteArray) :
    (Instr.lookup t (.map (some b)) (.string k) false).run P w = .ok ((findS k l).getD z) w := by
  obtain ⟨es, c, h1, h2⟩ := h
  obtain ⟨r, r1, r2, r3⟩ := findNow_str k es.toList l 0 h2
  have hf : (Instr.findKey kt (.string k) es.toList).run P w = .ok r w := MapKept.run_findKey hk r1
  unfold Instr.lookup
  simp only [Sem.run_bind, run_underlying ht w, Result.andThen_ok]
  cases hr : r with
  | none =>
    rw [hr] at r2 hf
    have : findS k l = none := by simpa using r2.symm
    rw [this]
    simp [Sem.run_bind, MapKept.run_getObj_map h1, check_str hk, hf, hz]
  | some p =>
    rw [hr] at r2 hf
    have : findS k l = some p.2 := by simpa using r2.symm
    rw [this]
    simp [Sem.run_bind, MapKept.run_getObj_map h1, check_str hk, hf]
theorem StrMap.put (h : StrMap w b l) (ht : P.underlying t = some (.map kt e)) (hk : P.underlying kt = some .string) (k : ByteArray) (hn : findS k l = none) (v : Value) :
    ∃ w', (Instr.mapUpdate t (.map (some b)) (.string k) v).run P w = .ok () w' ∧ StrMap w' b (l ++ [(k, v)]) ∧ Only (fun g => g = b) w w' := by
  have hlt := h.lt
  obtain ⟨es, c, h1, h2⟩ := h
  obtain ⟨r, r1, r2, r3⟩ := findNow_str k es.toList l 0 h2
  have hr := r3 hn
  subst hr
  have hf : (Instr.findKey kt (.string k) es.toList).run P w = .ok none w := MapKept.run_findKey hk r1
  refine ⟨{ w with heap := w.heap.setIfInBounds b (.map (es.push { key := .string k, val := v, born := c }) (c + 1)) }, ?_, ?_, ?_⟩
  · unfold Instr.mapUpdate
    simp [Sem.run_bind, run_underlying ht w, MapKept.run_getObj_map h1, check_str hk, hf, MapKept.run_setObj_map _ h1]
  · refine ⟨es.push { key := .string k, val := v, born := c }, c + 1, by simp [hlt], ?_⟩
    simp [h2]
  · exact ⟨rfl, rfl, rfl, by simp, fun g hg hn => by
      have : b ≠ g := fun e => hn e.symm
      simp [this]⟩
theorem StrMap.look_ok (h : StrMap w b l) (ht : P.underlying t = some (.map kt e)) (hk : P.underlying kt = some .string) {z : Value} (hz : (zeroValue e).run P w = .ok z w) (k : ByteArray) :
    (Instr.lookup t (.map (some b)) (.string k) true).run P w = .ok (.tuple #[(findS k l).getD z, .bool (findS k l).isSome]) w := by
  obtain ⟨es, c, h1, h2⟩ := h
  obtain ⟨r, r1, r2, r3⟩ := findNow_str k es.toList l 0 h2
  have hf : (Instr.findKey kt (.string k) es.toList).run P w = .ok r w := MapKept.run_findKey hk r1
  unfold Instr.lookup
  simp only [Sem.run_bind, run_underlying ht w, Result.andThen_ok]
  cases hr : r with
  | none =>
    rw [hr] at r2 hf
    have : findS k l = none := by simpa using r2.symm
    rw [this]
    simp [Sem.run_bind, MapKept.run_getObj_map h1, check_str hk, hf, hz]
  | some p =>
    rw [hr] at r2 hf
    have : findS k l = some p.2 := by simpa using r2.symm
    rw [this]
    simp [Sem.run_bind, MapKept.run_getObj_map h1, check_str hk, hf]
end
section
variable {P : Program} {w : World} {ops : Array Oper} {rest : List Oper} {o : Oper} {a : Act} {Q : Exit → Act → World → Prop} {b : Nat} {l : List (ByteArray × Value)} {kt t e : TypeId}
theorem list_findS (hg : o.guard = none) (mm x : Operand) (t : TypeId) (hop : o.op = Op.lookup t mm x false) (kt e : TypeId) (ht : P.underlying t = some (.map kt e)) (hk : P.underlying kt = some .string) (z : Value) (hz : (zeroValue e).run P w = .ok z w)
    (hm : a.eval mm = .map (some b)) (h : StrMap w b l) (k : ByteArray) (hx : a.eval x = .string k) (hK : wpList P ops Q rest (a.put o.dst ((findS k l).getD z)) w) : wpList P ops Q (o :: rest) a w := by
  refine wpList_plain hg fun K' hK' => ?_
  have hrun := h.look ht hk hz k
  unfold Oper.wp
  simp [execOp, hop, hm, hx, hrun, Result.andThen]
  exact hK' _ _ hK
theorem list_putS (hg : o.guard = none) (mm x v : Operand) (t : TypeId) (hop : o.op = Op.insert t mm x v) (kt e : TypeId) (ht : P.underlying t = some (.map kt e)) (hk : P.underlying kt = some .string)
    (hm : a.eval mm = .map (some b)) (h : StrMap w b l) (k : ByteArray) (hx : a.eval x = .string k) (hn : findS k l = none) (y : Value) (hy : a.eval v = y)
    (hK : ∀ w', StrMap w' b (l ++ [(k, y)]) → Only (fun g => g = b) w w' → wpList P ops Q rest (a.put o.dst undef) w') : wpList P ops Q (o :: rest) a w := by
  refine wpList_plain hg fun K' hK' => ?_
  obtain ⟨w', hrun, h1, h2⟩ := h.put ht hk k hn y
  unfold Oper.wp
  simp [execOp, hop, hm, hx, hy, hrun, Result.andThen]
  exact hK' _ _ (hK w' h1 h2)
theorem list_findS_ok (hg : o.guard = none) (mm x : Operand) (t : TypeId) (hop : o.op = Op.lookup t mm x true) (kt e : TypeId) (ht : P.underlying t = some (.map kt e)) (hk : P.underlying kt = some .string) (z : Value) (hz : (zeroValue e).run P w = .ok z w)
    (hm : a.eval mm = .map (some b)) (h : StrMap w b l) (k : ByteArray) (hx : a.eval x = .string k) (hK : wpList P ops Q rest (a.put o.dst (.tuple #[(findS k l).getD z, .bool (findS k l).isSome])) w) : wpList P ops Q (o :: rest) a w := by
  refine wpList_plain hg fun K' hK' => ?_
  have hrun := h.look_ok ht hk hz k
  unfold Oper.wp
  simp [execOp, hop, hm, hx, hrun, Result.andThen]
  exact hK' _ _ hK
theorem list_updS (hg : o.guard = none) (mm x v : Operand) (t : TypeId) (hop : o.op = Op.mapUpdate t mm x v) (kt e : TypeId) (ht : P.underlying t = some (.map kt e)) (hk : P.underlying kt = some .string)
    (hm : a.eval mm = .map (some b)) (h : StrMap w b l) (k : ByteArray) (hx : a.eval x = .string k) (hn : findS k l = none) (y : Value) (hy : a.eval v = y)
    (hK : ∀ w', StrMap w' b (l ++ [(k, y)]) → Only (fun g => g = b) w w' → wpList P ops Q rest (a.put o.dst undef) w') : wpList P ops Q (o :: rest) a w := by
  refine wpList_plain hg fun K' hK' => ?_
  obtain ⟨w', hrun, h1, h2⟩ := h.put ht hk k hn y
  unfold Oper.wp
  simp [execOp, hop, hm, hx, hy, hrun, Result.andThen]
  exact hK' _ _ (hK w' h1 h2)
end
end Go.Proofs.Ytecjhniomjmocaa
