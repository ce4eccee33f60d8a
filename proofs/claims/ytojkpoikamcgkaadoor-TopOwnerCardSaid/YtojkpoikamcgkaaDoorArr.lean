/- Arrays by value: what an index of one yields, and how one is read out of memory, at lists. No program is named here. -/
import Derived.Test.YtojkpoikamcgkaaDoorOnly
import Derived.Laws.Rows
import Derived.Deep.WholeRow
namespace Go.Proofs.YtojkpoikamcgkaaDoor
open Go.RowKit
set_option linter.unusedVariables false
set_option linter.unusedSimpArgs false

def intsV (zs : List Int) : List Value := zs.map (Value.int .i64)
def pairsV (zs : List (Int × Int)) : List Value := (zs.map fun r => [Value.int .i64 r.1, Value.int .i64 r.2]).flatten
theorem intsV_at {zs : List Int} {k : Nat} {x : Int} (h : zs[k]? = some x) : (intsV zs)[k]? = some (.int .i64 x) := by simp [intsV, h]
theorem intsV_len (zs : List Int) : (intsV zs).length = zs.length := by simp [intsV]
theorem pairsV_len : ∀ (zs : List (Int × Int)), (pairsV zs).length = zs.length * 2
  | [] => rfl
  | z :: zs => by
    have := pairsV_len zs
    simp only [pairsV, List.map_cons, List.flatten_cons, List.length_append, List.length_cons, List.length_nil] at this ⊢
    omega
theorem pairsV_at {zs : List (Int × Int)} {k : Nat} {r : Int × Int} (h : zs[k]? = some r) : (pairsV zs)[k * 2]? = some (.int .i64 r.1) ∧ (pairsV zs)[k * 2 + 1]? = some (.int .i64 r.2) := by
  have hc : ∀ c ∈ zs.map (fun r => [Value.int .i64 r.1, Value.int .i64 r.2]), c.length = 2 := by
    intro c hc
    obtain ⟨x, _, rfl⟩ := List.mem_map.1 hc
    rfl
  have hk : (zs.map (fun r => [Value.int .i64 r.1, Value.int .i64 r.2]))[k]? = some [Value.int .i64 r.1, Value.int .i64 r.2] := by simp [h]
  exact ⟨flatten_at _ k 0 _ hc hk (by omega), flatten_at _ k 1 _ hc hk (by omega)⟩

section
variable {P : Program}
theorem run_part_one {e : TypeId} {d : TypeDesc} (he : P.underlying e = some d) (hd : (match d with | .struct _ | .array _ _ => false | _ => true) = true) (cs : Array Value) (off : Nat) (v : Value) (w : World) (hv : cs[off]? = some v) : (part e cs off).run P w = .ok v w := by
  have hagg : (isAgg e).run P w = .ok false w := by
    unfold isAgg
    rw [Sem.run_bind, run_underlying he w]
    cases d <;> simp_all
  simp [part, Sem.run_bind, hagg, hv]
theorem run_size {e : TypeId} {s : Nat} (h : (P.info? e).map (·.size) = some s) (w : World) : (sizeOf e).run P w = .ok s w := by
  cases hq : P.info? e with
  | none => simp [hq] at h
  | some i =>
    have hs : i.size = s := by simpa [hq] using h
    simp [sizeOf, typeInfo, hq, Sem.run_bind, hs]
/-- The element number k of an array by value, an element of one cell. -/
theorem run_index_one {t e : TypeId} {n : Nat} {d : TypeDesc} (ht : P.underlying t = some (.array n e)) (he : P.underlying e = some d) (hd : (match d with | .struct _ | .array _ _ => false | _ => true) = true) (hs : (P.info? e).map (·.size) = some 1)
    (cs : Array Value) (k : Nat) (hk : k < n) (v : Value) (hv : cs[k]? = some v) (w : World) : (Instr.index t (.agg cs) (.int .i64 k)).run P w = .ok v w := by
  have h0 : (0 : Int) ≤ k ∧ (k : Int) < n := by omega
  unfold Instr.index
  simp only [Sem.run_bind, asIntOf, Sem.run_pure, Result.andThen_ok, run_underlying ht w]
  simp only [h0, and_self, if_true, Sem.run_bind, run_size hs w, Result.andThen_ok, Int.toNat_natCast, Nat.mul_one]
  exact run_part_one he hd cs k v w hv
/-- .. an element of several. -/
theorem run_index_agg {t e : TypeId} {n m : Nat} {d : TypeDesc} (ht : P.underlying t = some (.array n e)) (he : P.underlying e = some d) (hd : (match d with | .struct _ | .array _ _ => true | _ => false) = true) (hs : (P.info? e).map (·.size) = some m)
    (cs : Array Value) (k : Nat) (hk : k < n) (w : World) : (Instr.index t (.agg cs) (.int .i64 k)).run P w = .ok (.agg (cs.extract (k * m) (k * m + m))) w := by
  have h0 : (0 : Int) ≤ k ∧ (k : Int) < n := by omega
  have hagg : (isAgg e).run P w = .ok true w := by
    unfold isAgg
    rw [Sem.run_bind, run_underlying he w]
    cases d <;> simp_all
  unfold Instr.index
  simp only [Sem.run_bind, asIntOf, Sem.run_pure, Result.andThen_ok, run_underlying ht w]
  simp only [h0, and_self, if_true, Sem.run_bind, run_size hs w, Result.andThen_ok, Int.toNat_natCast, part, hagg, Sem.run_pure]

theorem run_loadVar_at {w : World} {b off : Nat} {ty : TypeId} {cs : Array Value} {d : TypeDesc} (hc : ∀ j u, cs[j]? = some u → w.cell? ⟨b, off + j, none⟩ = some u)
    (hu : P.underlying ty = some d) (hd : (match d with | .struct _ | .array _ _ => true | _ => false) = true) (hi : (P.info? ty).map (·.size) = some cs.size) : (loadVar ty ⟨b, off, none⟩).run P w = .ok (.agg cs) w := by
  have hl : (loadCells ⟨b, off, none⟩ cs.toList.length).run P w = .ok cs.toList.toArray w :=
    run_loadCells_list (P := P) w ⟨b, off, none⟩ cs.toList (fun j v hv => by
      rw [Addr.add_lit]
      exact hc j v (by simpa using hv))
  have hagg : (isAgg ty).run P w = .ok true w := by
    unfold isAgg
    rw [Sem.run_bind, run_underlying hu w]
    cases d <;> simp_all
  simp only [Array.length_toList, Array.toArray_toList] at hl
  simp [loadVar, Sem.run_bind, hagg, run_size hi w, hl]

/-- A struct or array read out of memory, whole, whose cells are known as a list. -/
theorem wp_load_at {o : Oper} {a : Act} {w : World} {K : Act → World → Prop} {Q : Exit → Act → World → Prop} (ty : TypeId) (x : Operand) (ho : o.op = .load ty x)
    (b off : Nat) (hx : a.eval x = .pointer (some ⟨b, off, none⟩)) (cs : Array Value) (d : TypeDesc) (hc : ∀ j u, cs[j]? = some u → w.cell? ⟨b, off + j, none⟩ = some u)
    (hu : P.underlying ty = some d) (hd : (match d with | .struct _ | .array _ _ => true | _ => false) = true) (hi : (P.info? ty).map (·.size) = some cs.size)
    (h : K (a.put o.dst (.agg cs)) w) : o.wp P a w K Q := by
  unfold Oper.wp execOp
  simp only [ho, hx, Instr.loadAt, Instr.sureAddr, Sem.run_bind, Sem.run_pure, Result.andThen_ok, run_loadVar_at hc hu hd hi]
  exact h
theorem list_load_at {ops : Array Oper} {rest : List Oper} {o : Oper} {a : Act} {w : World} {Q : Exit → Act → World → Prop} (hgd : o.guard = none) (ty : TypeId) (x : Operand) (ho : o.op = .load ty x)
    (b off : Nat) (hx : a.eval x = .pointer (some ⟨b, off, none⟩)) (cs : Array Value) (d : TypeDesc) (hc : ∀ j u, cs[j]? = some u → w.cell? ⟨b, off + j, none⟩ = some u)
    (hu : P.underlying ty = some d) (hd : (match d with | .struct _ | .array _ _ => true | _ => false) = true) (hi : (P.info? ty).map (·.size) = some cs.size)
    (h : wpList P ops Q rest (a.put o.dst (.agg cs)) w) : wpList P ops Q (o :: rest) a w :=
  wpList_plain hgd fun _ hK => wp_load_at ty x ho b off hx cs d hc hu hd hi (hK _ _ h)
/-- A struct or array stored whole into a block that is known whole. -/
theorem list_store_bk {ops : Array Oper} {rest : List Oper} {o : Oper} {a : Act} {w : World} {Q : Exit → Act → World → Prop} (hgd : o.guard = none) (ty : TypeId) (x y : Operand) (ho : o.op = .store ty x y) {t : TypeId} {old : Array Value} (g : Nat)
    (cells : Array Value) (hx : a.eval x = .pointer (some ⟨g, 0, none⟩)) (hy : a.eval y = .agg cells) (hg : Bk w g old t)
    (hi : (P.info? ty).map (·.size) = some cells.size) (hold : old.size = cells.size) (h1 : cells.all (·.oneCell') = true)
    (h : ∀ w', Bk w' g cells t → Only (fun b => b = g) w w' → wpList P ops Q rest (a.put o.dst undef) w') : wpList P ops Q (o :: rest) a w := by
  refine wpList_store_row hgd ty x y ho g cells hx hy t old hg hi hold h1 ?_
  have hgs := hg.lt
  refine h _ ?_ ?_
  · have hg' : w.heap[g]? = some (.cells old t (0, 0)) := hg
    show (w.setRow g cells).heap[g]? = _
    unfold World.setRow
    rw [Array.getElem?_modify, if_pos rfl, hg']
    rfl
  · refine ⟨rfl, rfl, rfl, by simp [World.setRow], fun k hk hn => ?_⟩
    show (w.heap.modify g _)[k]? = _
    rw [Array.getElem?_modify, if_neg (fun e => hn e.symm)]
/-- A struct or array stored whole into the block that was made last. -/
theorem list_store_fresh {ops : Array Oper} {rest : List Oper} {o : Oper} {a : Act} {w : World} {Q : Exit → Act → World → Prop} (hgd : o.guard = none) (ty : TypeId) (x y : Operand) (ho : o.op = .store ty x y) {t : TypeId} {old : Array Value}
    (cells : Array Value) (hx : a.eval x = .pointer (some ⟨w.heap.size, 0, none⟩)) (hy : a.eval y = .agg cells)
    (hi : (P.info? ty).map (·.size) = some cells.size) (hold : old.size = cells.size) (h1 : cells.all (·.oneCell') = true)
    (h : wpList P ops Q rest (a.put o.dst undef) (w.alloc (.cells cells t))) : wpList P ops Q (o :: rest) a (w.alloc (.cells old t)) := by
  refine wpList_store_row hgd ty x y ho w.heap.size cells hx hy t old (heap_alloc_new w _) hi hold h1 ?_
  rw [World.setRow_alloc_new]
  exact h
end
theorem one_ints (zs : List Int) : (intsV zs).toArray.all (·.oneCell') = true := by
  rw [Array.all_eq_true_iff_forall_mem]
  intro v hv
  simp only [List.mem_toArray, intsV, List.mem_map] at hv
  obtain ⟨x, _, rfl⟩ := hv
  rfl
theorem one_pairs (zs : List (Int × Int)) : (pairsV zs).toArray.all (·.oneCell') = true := by
  rw [Array.all_eq_true_iff_forall_mem]
  intro v hv
  simp only [List.mem_toArray, pairsV, List.mem_flatten, List.mem_map] at hv
  obtain ⟨l, ⟨x, _, rfl⟩, hv⟩ := hv
  simp only [List.mem_cons, List.not_mem_nil, or_false] at hv
  rcases hv with rfl | rfl <;> rfl
end Go.Proofs.YtojkpoikamcgkaaDoor
