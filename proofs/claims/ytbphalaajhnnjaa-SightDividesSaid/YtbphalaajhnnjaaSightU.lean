/- SightDivides: its row. -/
import Derived.Test.YtbphalaajhnnjaaSightT
namespace Go.Proofs.Ytbphalaajhnnjaa
open Go.RowKit Go.ChangeAt
set_option linter.unusedVariables false

set_option maxRecDepth 100000 in
theorem sightDivides_lifted (os : Os) (started : os.Started) (H : Type) (enc : TypeId × Value → H) :
    ReturnsInHanded {} Try.checked os 7 .any (Rows.sightDividesSpec.pre6 enc Try.prog Try.f7 [] false) (Rows.sightDividesSpec.post enc Try.prog Try.f7 false true false false) := by
  refine law_lifted (C := Try.checked) own started (by kernel_rfl) Try.func7 rfl (fun ds hds => ?_) (tb := 4) (by kernel_rfl) Try.underlying4 laidOut (fun t ht => ?_)
    (ChangeSpec.witness6 (enc := enc) (C := Try.checked) false ⟨#[], #[.agg #[.int .u16 0, .int .u16 0, .int .u16 0, .int .u16 0, .int .u16 0, .int .u16 0, .int .u16 0, .int .u16 0], .int .u16 0, .bool false], []⟩ 8 (by kernel_rfl) (by kernel_rfl) (by kernel_rfl) (by kernel_rfl)) ?_
  · rw [Try.params7] at hds
    match ds, hds with
    | [_, _, _], _ => rfl
  · have := List.all_eq_true.1 (show (Try.f7.params.toList.all fun t => Try.prog.readableRec t && decide (t < Try.prog.types.size)) = true by kernel_rfl) t ht
    simp only [Bool.and_eq_true, decide_eq_true_eq] at this
    exact this
  · intro W args g
    rw [Try.params7] at g
    obtain ⟨v0, q0, e0, g0, h0⟩ := g.cons_inv
    obtain ⟨v1, q1, rfl, g1, h1⟩ := h0.cons_inv
    obtain ⟨v2, q2, rfl, g2, h2⟩ := h1.cons_inv
    obtain rfl := h2.nil_inv
    obtain rfl : args = #[v0, v1, v2] := by cases args; simp_all
    obtain ⟨c0, y0, rfl, r0⟩ := g0.arr Try.underlying35 opens8
    obtain ⟨a, b, c, d, e, f, g, k, E0, x1, x2, x3, x4, x5, x6, x7, x8⟩ := arr8_of r0
    obtain ⟨n, rfl, x9⟩ := g1.u16 Try.underlying34 (by kernel_rfl)
    obtain ⟨t, rfl⟩ := g2.bool Try.underlying4 (by kernel_rfl)
    rw [E0]
    exact divides_walk _ _ _ _ _ _ _ _ _ _ W x1 x2 x3 x4 x5 x6 x7 x8 x9

theorem sightDivides_holds : Rows.SightDividesSaid :=
  OpenClaim.holds_of_wide 7 Try.f7 rfl rfl rfl rfl rfl rfl rfl ⟨rfl, rfl, rfl, rfl, rfl⟩ rfl rfl rfl rfl rfl (by kernel_rfl) Try.func7 (by kernel_rfl)
    (of_decide_eq_true (by kernel_rfl)) (by unfold Func.isWrapper; first | (rw [if_pos (by decide +kernel)]; kernel_rfl) | (rw [if_neg (by decide +kernel)]; exact ⟨rfl, rfl⟩))
    (fun os started H enc _ => sightDivides_lifted os started H enc)
#print axioms sightDivides_holds

end Go.Proofs.Ytbphalaajhnnjaa
