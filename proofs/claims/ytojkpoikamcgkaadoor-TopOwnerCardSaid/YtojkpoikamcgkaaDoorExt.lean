/- Worlds that continue a world: what was there stays, what came is not told. By this word a walk goes through calls whose callees make memory, and through regions that draw their order among such calls. -/
import Derived.Test.YtojkpoikamcgkaaDoorTail
namespace Go.Proofs.YtojkpoikamcgkaaDoor
open Go.RowKit
set_option linter.unusedVariables false

/-- W, continued as u: W's blocks, and behind them u's. -/
def ext (W u : World) : World := { heap := W.heap ++ u.heap.extract W.heap.size u.heap.size, tape := W.tape, drawn := u.drawn, os := W.os, output := W.output }

section
variable {W u w' : World}

theorem heap_ext {k : Nat} (h : k < W.heap.size) : (ext W u).heap[k]? = W.heap[k]? := by
  show (W.heap ++ _)[k]? = _
  rw [Array.getElem?_append_left h]
theorem size_ext (W u : World) : W.heap.size ≤ (ext W u).heap.size := by
  show _ ≤ (W.heap ++ _).size
  rw [Array.size_append]; omega
theorem below_ext (W u : World) : Below W.heap.size W (ext W u) := ⟨rfl, rfl, rfl, size_ext W u, fun k hk => heap_ext hk⟩
theorem ext_cell (b o : Nat) (h : b < W.heap.size) : (ext W u).cell? ⟨b, o, none⟩ = W.cell? ⟨b, o, none⟩ := (below_ext W u).cell (p := ⟨b, o, none⟩) h
theorem ext_frozen (b o : Nat) (h : b < W.heap.size) : (ext W u).frozen? ⟨b, o, none⟩ = W.frozen? ⟨b, o, none⟩ := (below_ext W u).frozen (p := ⟨b, o, none⟩) h
theorem lt_ext {b : Nat} (h : b < W.heap.size) : b < (ext W u).heap.size := Nat.lt_of_lt_of_le h (size_ext W u)
theorem ext_drew : (ext W u).drew = ext W u.drew := rfl
theorem ext_drewN (n : Nat) : (ext W u).drewN n = ext W (u.drewN n) := rfl

theorem ext_of (h : Below W.heap.size W w') : ∃ u, ext W u = w' := by
  refine ⟨w', ?_⟩
  obtain ⟨h1, h2, h3, h4, h5⟩ := h
  obtain ⟨heap, tape, drawn, os, output⟩ := w'
  simp only at h1 h2 h3 h4 h5
  unfold ext
  simp only [World.mk.injEq]
  refine ⟨?_, h2.symm, trivial, h1.symm, h3.symm⟩
  apply Array.ext_getElem?
  intro i
  by_cases hi : i < W.heap.size
  · rw [Array.getElem?_append_left hi, h5 i hi]
  · rw [Array.getElem?_append_right (by omega), Array.getElem?_extract]
    split
    · congr 1; omega
    · rw [Array.getElem?_eq_none (by omega)]

theorem ext_more (h : Below (ext W u).heap.size (ext W u) w') : ∃ v, ext W v = w' := ext_of ((below_ext W u).trans (h.mono (size_ext W u)))
theorem ext_more_alloc {o : Obj} (h : Below ((ext W u).alloc o).heap.size ((ext W u).alloc o) w') : ∃ v, ext W v = w' :=
  ext_of (((below_ext W u).alloc (size_ext W u) o).trans (h.mono (by simp; have := size_ext W u; omega)))
theorem ext_below {B : Nat} {w : World} (h : Below B w W) (hB : B ≤ W.heap.size) (u : World) : Below B w (ext W u) := h.trans ((below_ext W u).mono hB)
end

theorem Elems.ext {α : Type} {T : Ty α} {W : World} {B : Nat} {A : Option Addr} {xs : List α} (h : Elems T W B A xs) (hB : B ≤ W.heap.size) (u : World) : Elems T (ext W u) B A xs :=
  h.keep ((below_ext W u).mono hB) (Nat.le_refl _)

/-- A callee's contract inside a region whose class is 'W, continued'. -/
theorem Calls.in_ext {P : Program} {f : FuncId} {args : Array Value} {W u : World} {v : Value}
    (h : Calls P f args (ext W u) fun e w' => e = .returned v ∧ Below (ext W u).heap.size (ext W u) w') : Calls P f args (ext W u) fun e w'' => e = .returned v ∧ ∃ u', w'' = ext W u' :=
  h.mono fun _ _ ⟨he, hb⟩ => by
    obtain ⟨u', hu⟩ := ext_more hb
    exact ⟨he, u', hu.symm⟩
theorem Calls.in_ext_same {P : Program} {f : FuncId} {args : Array Value} {W u : World} {v : Value}
    (h : Calls P f args (ext W u) fun e w' => e = .returned v ∧ ext W u = w') : Calls P f args (ext W u) fun e w'' => e = .returned v ∧ ∃ u', w'' = ext W u' :=
  h.mono fun _ _ ⟨he, hb⟩ => ⟨he, u, hb.symm⟩

/-- A region that draws its order: each operation yields one value in every continuation of W. -/
theorem wp_region_ext {P : Program} {id : Nat} {Q : Exit → Act → World → Prop} {a : Act} {l : List Oper} (W : World) (hm : P.follows .mixedOrders = true) (hB : Region.lexB .any l.toArray = true)
    (h : wpQuiet P l.toArray (fun w' => ∃ u, w' = ext W u) (fun a' => ∀ u, Q .normal a' (ext W u)) l a) : (Code.region id l.toArray true).wp P Q a W := by
  have hC : ∃ u, W.drew = ext W u := by
    obtain ⟨u, hu⟩ := ext_of (W := W) (w' := W.drew) ((Below.refl _ _).drew)
    exact ⟨u, hu.symm⟩
  refine wp_region_quiet (C := fun w' => ∃ u, w' = ext W u) hm hB hC ?_
  have e : (fun a' => ∀ u, Q .normal a' (ext W u)) = (fun a' => ∀ w', (∃ u, w' = ext W u) → Q .normal a' w') := by
    funext a'
    apply propext
    exact ⟨fun h w' ⟨u, hu⟩ => hu ▸ h u, fun h u => h _ ⟨u, rfl⟩⟩
  rw [← e]
  simpa using h
/-- .. at a world that continues W already. -/
theorem wp_region_more {P : Program} {id : Nat} {Q : Exit → Act → World → Prop} {a : Act} {l : List Oper} (W u : World) (hm : P.follows .mixedOrders = true) (hB : Region.lexB .any l.toArray = true)
    (h : wpQuiet P l.toArray (fun w' => ∃ u, w' = ext W u) (fun a' => ∀ u, Q .normal a' (ext W u)) l a) : (Code.region id l.toArray true).wp P Q a (ext W u) := by
  refine wp_region_quiet (C := fun w' => ∃ u, w' = ext W u) hm hB ⟨u.drew, rfl⟩ ?_
  have e : (fun a' => ∀ u, Q .normal a' (ext W u)) = (fun a' => ∀ w', (∃ u, w' = ext W u) → Q .normal a' w') := by
    funext a'
    apply propext
    exact ⟨fun h w' ⟨u, hu⟩ => hu ▸ h u, fun h u => h _ ⟨u, rfl⟩⟩
  rw [← e]
  simpa using h
end Go.Proofs.YtojkpoikamcgkaaDoor
