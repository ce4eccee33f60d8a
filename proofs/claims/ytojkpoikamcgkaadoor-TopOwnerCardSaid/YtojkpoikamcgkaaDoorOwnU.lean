/- Layer 30 (title): slices.Clone of a chain. -/
import Derived.Test.YtojkpoikamcgkaaDoorOwnT
import Derived.Test.YtojkpoikamcgkaaDoorGrow
import Derived.WalkSpells
namespace Go.Proofs.YtojkpoikamcgkaaDoor
open Go.RowKit Go.Shelf
set_option linter.unusedVariables false
set_option linter.unusedSimpArgs false
attribute [local go_sem] ext_cell ext_frozen lt_ext ext_drew

/-- A slice whose row lies at or behind a block. -/
def tSliceG (lo : Nat) {α : Type} (T : Ty α) : Ty (List α) where
  n := 1
  rd := fun w B cs xs => (tSlice T).rd w B cs xs ∧ ∀ A n cap, cs = [.slice A n cap] → ∀ b off fr, A = some ⟨b, off, fr⟩ → lo ≤ b
  len := fun h => (tSlice T).len h.1
  keep := fun hb hB h => ⟨(tSlice T).keep hb hB h.1, h.2⟩
abbrev tTrG (lo : Nat) : Ty Tr := tPair tStr (tSliceG lo tStr)
theorem elems_drop {lo : Nat} {w : World} {B : Nat} {A : Option Addr} {ch : List Tr} (h : Elems (tTrG lo) w B A ch) : Elems tTr w B A ch := fun i hi => by
  obtain ⟨b, off, cs, hA, hb, ⟨c1, c2, rfl, r1, r2, _⟩, hc⟩ := h i hi
  exact ⟨b, off, _, hA, hb, ⟨c1, c2, rfl, r1, r2⟩, hc⟩
theorem elems_lift {w : World} {B : Nat} {A : Option Addr} {ch : List Tr} (h : Elems tTr w B A ch) : Elems (tTrG 0) w B A ch := fun i hi => by
  obtain ⟨b, off, cs, hA, hb, ⟨c1, c2, rfl, r1, r2⟩, hc⟩ := h i hi
  exact ⟨b, off, _, hA, hb, ⟨c1, c2, rfl, r1, r2, fun _ _ _ _ _ _ _ _ => Nat.zero_le _⟩, hc⟩
theorem elems_only {S : Nat → Prop} {α : Type} {T : Ty α} {lo : Nat} {w w' : World} {B : Nat} {A : Option Addr} {xs : List α} (h : Elems T w B A xs) (hlo : ∀ b off fr, A = some ⟨b, off, fr⟩ → lo ≤ b) (ho : Only S w w') (hS : ∀ g, S g → g < lo) (hB : B ≤ w.heap.size)
    (hr : ∀ cs x, T.rd w B cs x → T.rd w' B cs x) : Elems T w' B A xs := fun i hi => by
  obtain ⟨b, off, cs, hA, hb, r, hc⟩ := h i hi
  have hl := hlo b off none hA
  have hn : ¬ S b := fun hs => by have := hS b hs; omega
  exact ⟨b, off, cs, hA, hb, hr _ _ r, fun j u hu => (World.cell?_of_block (a := ⟨b, _, none⟩) (ho.block b (by omega) hn)).trans (hc j u hu)⟩
theorem elemsG_only {S : Nat → Prop} {lo : Nat} {w w' : World} {B : Nat} {A : Option Addr} {ch : List Tr} (h : Elems (tTrG lo) w B A ch) (hlo : ∀ b off fr, A = some ⟨b, off, fr⟩ → lo ≤ b) (ho : Only S w w') (hS : ∀ g, S g → g < lo) (hB : B ≤ w.heap.size) : Elems (tTrG lo) w' B A ch := by
  refine elems_only h hlo ho hS hB (fun cs x hx => ?_)
  obtain ⟨c1, c2, rfl, r1, ⟨A2, cap2, rfl, k1, k2, k3⟩, r3⟩ := hx
  exact ⟨c1, _, rfl, r1, ⟨A2, cap2, rfl, k1, k2, elems_only k3 (r3 A2 _ cap2 rfl) ho hS hB (fun cs x hx => hx)⟩, r3⟩
theorem one_trO {lo : Nat} {w : World} {B : Nat} {cs : List Value} {x : Tr} (h : (tTrG lo).rd w B cs x) : ∀ u ∈ cs, u.oneCell' = true := by
  obtain ⟨c1, c2, rfl, ⟨rfl, _⟩, ⟨A, cap, rfl, _⟩, _⟩ := h
  intro u hu
  simp only [List.cons_append, List.nil_append, List.mem_cons, List.not_mem_nil, or_false] at hu
  rcases hu with rfl | rfl <;> rfl
set_option maxRecDepth 100000 in
set_option maxHeartbeats 1000000 in
theorem clone_any (lo : Nat) (A : Option Addr) (ch : List Tr) (cap : Nat) (w : World) (B : Nat) (h : Elems (tTrG lo) w B A ch) (hB : B ≤ w.heap.size) (hl : ch.length ≤ 1000) :
    Calls Tryd.prog 47 #[.slice A ch.length cap] w fun e w' => ∃ A' c', e = .returned (.slice A' ch.length c') ∧ OwnL (tTrG lo) 27 w' w.heap.size B (.slice A' ch.length c') ch ∧ Below w.heap.size w w' := by
  obtain ⟨css, k1, k2, k3, k4, k5⟩ := h.flat
  have HK := Lib.hid (And.intro k1 (And.intro k2 (And.intro k3 (And.intro k4 k5))))
  clear k1 k2 k3 k4 k5
  have hinf : (Tryd.prog.info? 27).map (fun i => (i.size, i.bytes, i.zero.map fun z => z.cells.size)) = some ((tTrG lo).n, 40, some (tTrG lo).n) := show _ = some (2, 40, some 2) from by kernel_rfl
  have qT : ∀ (w : World) (a : Option Addr) (n c : Nat), (binOp .eql 22 (.slice a n c) (.slice none 0 0)).run Tryd.prog w = .ok (.bool a.isNone) w := fun w a n c => Lib.run_eql_slice_nil w _ _ a n c 0 0 Tryd.underlying22
  go_enter Tryd.func47, Tryd.ntmps47
  cases A with
  | none =>
    obtain rfl : ch = [] := by
      cases ch with
      | nil => rfl
      | cons x xs =>
        obtain ⟨b, off, cs, hA, _⟩ := h 0 (by simp)
        cases hA
    go_wp2_with fail
    go_ret
    exact ⟨none, 0, rfl, OwnL.nil, Below.refl _ _⟩
  | some ad =>
    clear h
    go_wp2_with (at_builtin; refine list_appendL (T := tTrG lo) (base := w.heap.size) (B := B) (qs := []) (v := .slice (some ⟨w.heap.size, 0, none⟩) 0 0) rfl _ _ _ rfl 40 Tryd.underlying22 hinf (show 0 < 2 by decide) (fun w B cs x h => one_trO h) rfl ⟨[], rfl, fun i h => absurd h (by simp), own_start w w.heap.size 27 (tTrG lo).n (Nat.le_refl _)⟩ (some ad) ch.length cap ch css rfl rfl HK.out.1 (fun i h1 h2 => (tTrG lo).keep ((below_self w _).mono hB) (Nat.le_refl _) (HK.out.2.1 i h1 h2)) (lies_of HK.out.2.2.2.2 (below_self w _ |>.mono hB)) (by unfold maxLen; simp; omega) (by simp; omega) (by simp) hB ?_; intro A8 c8 w8 hown8 hbel8 hg8 hd8)
    go_ret
    refine ⟨A8, c8, ?_, by simpa using hown8, ?_⟩
    · simp
    · exact (below_self w _).trans hbel8
end Go.Proofs.YtojkpoikamcgkaaDoor
