/- Layer 34 (deal): means of one card. -/
import Derived.Test.YtggmihnhdojepaaDealV
namespace Go.Proofs.Ytggmihnhdojepaa
open Go.RowKit
set_option linter.unusedVariables false
set_option linter.unusedSimpArgs false
attribute [local go_sem] ext_cell ext_frozen lt_ext ext_drew

def cardN : ByteArray := ⟨#[99, 97, 114, 100]⟩
def cardL (n : Int) : List Mn := if n = 0 then [] else [(cardN, n)]
def Carded (w : World) (n : Int) (e : Ending) (w' : World) : Prop :=
  ∃ A k c, e = .returned (.slice A k c) ∧ k = (cardL n).length ∧ Elems tMean w' w'.heap.size A (cardL n) ∧ Below w.heap.size w w'
set_option maxHeartbeats 1000000 in
theorem card_any (n : Int) (w : World) (hn : fits n) : Calls Try.prog 24 #[.int .i64 n] w (Carded w n) := by
  by_cases h0 : n = 0
  · subst h0
    go_enter Try.func24, Try.ntmps24
    go_wp2_with fail
    go_ret
    exact ⟨none, 0, 0, rfl, rfl, Elems.nil, by (repeat (first | with_reducible exact Below.refl _ _ | with_reducible assumption | with_reducible refine Below.alloc0 ?_ _ | with_reducible refine Below.ext0 ?_ _ | with_reducible refine Below.drew ?_ | with_reducible refine below_drewN ?_ _ | (with_reducible refine Below.setCell (hp := ?hp) ?_ _; case hp => (first | (simp; done) | (simp; omega)))))⟩
  · go_enter Try.func24, Try.ntmps24
    go_wp2_with fail
    go_ret
    refine ⟨some ⟨w.heap.size, 0, none⟩, 1, 1, rfl, by unfold cardL; rw [if_neg h0]; rfl, ?_, by (repeat (first | with_reducible exact Below.refl _ _ | with_reducible assumption | with_reducible refine Below.alloc0 ?_ _ | with_reducible refine Below.ext0 ?_ _ | with_reducible refine Below.drew ?_ | with_reducible refine below_drewN ?_ _ | (with_reducible refine Below.setCell (hp := ?hp) ?_ _; case hp => (first | (simp; done) | (simp; omega)))))⟩
    unfold cardL
    rw [if_neg h0]
    exact Elems.of_block (t := 45) [[.string cardN, .int .i64 n]] (Bk.new _ _ _) (by simp) rfl (fun i hi => by obtain rfl : i = 0 := (by simp at hi; omega); exact ⟨[.string cardN], [.int .i64 n], rfl, ⟨rfl, by show 4 ≤ maxLen; unfold maxLen; omega⟩, ⟨rfl, hn⟩⟩) rfl
end Go.Proofs.Ytggmihnhdojepaa
