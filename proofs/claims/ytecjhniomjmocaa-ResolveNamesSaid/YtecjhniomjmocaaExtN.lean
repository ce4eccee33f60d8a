/- Worlds that continue a world in every block but one (a row of the call's own, that is appended to). No program is named here. -/
import Derived.Test.YtecjhniomjmocaaPlanI
import Derived.Test.YtecjhniomjmocaaOnly
namespace Go.Proofs.Ytecjhniomjmocaa
open Go.RowKit
set_option linter.unusedVariables false
set_option linter.unusedSimpArgs false

/-- X in each of its blocks but o; u there, and behind. -/
def extN (o : Option Nat) (X u : World) : World :=
  { heap := (X.heap.mapIdx fun i b => if o = some i then (u.heap[i]?).getD b else b) ++ u.heap.extract X.heap.size u.heap.size, tape := X.tape, drawn := u.drawn, os := X.os, output := X.output }
section
variable {o : Option Nat} {X u w' : World}
theorem heap_extN {k : Nat} (h : k < X.heap.size) (hn : ¬ o = some k) : (extN o X u).heap[k]? = X.heap[k]? := by
  show (Array.mapIdx _ X.heap ++ _)[k]? = _
  rw [Array.getElem?_append_left (by simpa using h), Array.getElem?_mapIdx]
  rw [Array.getElem?_eq_getElem h]
  simp [hn]
theorem size_extN : X.heap.size ≤ (extN o X u).heap.size := by
  show _ ≤ (Array.mapIdx _ X.heap ++ _).size
  rw [Array.size_append]
  simp
theorem extN_cell (b off : Nat) (h : b < X.heap.size) (hn : ¬ o = some b) : (extN o X u).cell? ⟨b, off, none⟩ = X.cell? ⟨b, off, none⟩ := World.cell?_of_block (a := ⟨b, off, none⟩) (heap_extN h hn)
theorem lt_extN {b : Nat} (h : b < X.heap.size) : b < (extN o X u).heap.size := Nat.lt_of_lt_of_le h size_extN
theorem extN_of {S : Nat → Prop} (h : Only S X w') (hS : ∀ g, S g → o = some g) : ∃ u, w' = extN o X u := by
  refine ⟨w', ?_⟩
  have h1 := h.os
  have h2 := h.tape
  have h3 := h.output
  have h4 := h.size
  have h5 := h.block
  obtain ⟨heap, tape, drawn, os, output⟩ := w'
  simp only at h1 h2 h3 h4 h5
  unfold extN
  simp only [World.mk.injEq]
  refine ⟨?_, h2, trivial, h1, h3⟩
  apply Array.ext_getElem?
  intro i
  by_cases hi : i < X.heap.size
  · rw [Array.getElem?_append_left (by simpa using hi), Array.getElem?_mapIdx, Array.getElem?_eq_getElem hi]
    by_cases ho : o = some i
    · simp only [Option.map_some, ho, if_true]
      rw [Array.getElem?_eq_getElem (by omega)]
      rfl
    · rw [h5 i hi (fun hs => ho (hS i hs)), Array.getElem?_eq_getElem hi]
      simp [ho]
  · rw [Array.getElem?_append_right (by simp; omega), Array.getElem?_extract]
    simp only [Array.size_mapIdx]
    split
    · congr 1; omega
    · rw [Array.getElem?_eq_none (by omega)]
theorem mem_extN (h : Only (fun g => o = some g) X w') : ∃ u, w' = extN o X u := extN_of h fun _ h => h
end
end Go.Proofs.Ytecjhniomjmocaa
