/- Slices that a call made: out of a block that is known, how they read. -/
import Derived.Test.YtojkpoikamcgkaaDoorExt
namespace Go.Proofs.YtojkpoikamcgkaaDoor
open Go.RowKit
set_option linter.unusedVariables false

theorem flatten_at {α : Type} {n : Nat} : ∀ (css : List (List α)) (i j : Nat) (c : List α), (∀ c ∈ css, c.length = n) → css[i]? = some c → j < n → css.flatten[i * n + j]? = c[j]?
  | [], i, j, c, _, h, _ => by simp at h
  | d :: css, 0, j, c, hn, h, hj => by
    have e : d = c := by simpa using h
    subst e
    have hd : d.length = n := hn d (List.mem_cons_self ..)
    rw [List.flatten_cons, List.getElem?_append_left (by omega)]
    congr 1; omega
  | d :: css, i + 1, j, c, hn, h, hj => by
    have hd : d.length = n := hn d (List.mem_cons_self ..)
    have e : (i + 1) * n = i * n + n := Nat.succ_mul i n
    rw [List.flatten_cons, List.getElem?_append_right (by omega), hd]
    have := flatten_at css i j c (fun c hc => hn c (List.mem_cons_of_mem _ hc)) (by simpa using h) hj
    rw [← this]; congr 1; omega

theorem tPair_mk {α β : Type} {S : Ty α} {T : Ty β} {w : World} {B : Nat} {c1 c2 : List Value} {x : α} {y : β} (h1 : S.rd w B c1 x) (h2 : T.rd w B c2 y) : (tPair S T).rd w B (c1 ++ c2) (x, y) := ⟨c1, c2, rfl, h1, h2⟩

/-- The elements' cells, one after the other, as they lie from 'off' on. -/
theorem Elems.of_flat {α : Type} {T : Ty α} {w : World} {B b off : Nat} {xs : List α} (css : List (List Value)) (hb : b < B) (hl : css.length = xs.length)
    (hr : ∀ i (h : i < xs.length), T.rd w B (css[i]'(by omega)) xs[i]) (hc : ∀ k u, css.flatten[k]? = some u → w.cell? ⟨b, off + k, none⟩ = some u) : Elems T w B (some ⟨b, off, none⟩) xs := fun i hi => by
  refine ⟨b, off, css[i]'(by omega), rfl, hb, hr i hi, fun j u hu => ?_⟩
  have hn : ∀ c ∈ css, c.length = T.n := fun c hc' => by
    obtain ⟨k, hk, rfl⟩ := List.mem_iff_getElem.1 hc'
    exact T.len (hr k (by omega))
  have hj : j < T.n := by
    have h1 := T.len (hr i hi)
    have := (List.getElem?_eq_some_iff.1 hu).1
    omega
  have := flatten_at css i j _ hn (List.getElem?_eq_getElem (by omega)) hj
  rw [hu] at this
  rw [Nat.add_assoc]
  exact hc _ u this

theorem Elems.of_block {α : Type} {T : Ty α} {w : World} {B b t : Nat} {C : Array Value} {xs : List α} (css : List (List Value)) (hh : w.heap[b]? = some (.cells C t (0, 0))) (hb : b < B) (hl : css.length = xs.length)
    (hr : ∀ i (h : i < xs.length), T.rd w B (css[i]'(by omega)) xs[i]) (hC : C.toList = css.flatten) : Elems T w B (some ⟨b, 0, none⟩) xs :=
  Elems.of_flat css hb hl hr fun k u hu => by
    rw [← hC] at hu
    simp only [World.cell?, hh, Option.isSome_none, Nat.zero_add]
    simpa using hu
end Go.Proofs.YtojkpoikamcgkaaDoor
