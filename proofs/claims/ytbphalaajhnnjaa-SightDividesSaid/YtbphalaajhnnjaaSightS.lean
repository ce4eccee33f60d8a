/- SightContains: a larger rectangle is crossed too; an end or the middle in the rectangle crosses it; a line on one side does not; for every numbers; no condition. The row. -/
import Derived.Test.YtbphalaajhnnjaaSightR
namespace Go.Proofs.Ytbphalaajhnnjaa
open Go.RowKit Go.ChangeAt
set_option linter.unusedVariables false

theorem opens4 : Opens Try.prog 42 (tArr 4 tU16) := opens_arr Try.underlying42 (by kernel_rfl) opensU16
theorem arr4_of {w : World} {cs : Array Value} {xs : List Int} (h : (tArr 4 tU16).rd w w.heap.size cs.toList xs) :
    ∃ a b c d, Value.agg cs = .agg #[.int .u16 a, .int .u16 b, .int .u16 c, .int .u16 d] ∧ (0 ≤ a ∧ a ≤ 65535) ∧ (0 ≤ b ∧ b ≤ 65535) ∧ (0 ≤ c ∧ c ≤ 65535) ∧ (0 ≤ d ∧ d ≤ 65535) := by
  obtain ⟨h1, h2, h3⟩ := arr_cells h
  obtain ⟨a, b, c, d, rfl⟩ := four xs h2
  refine ⟨a, b, c, d, ?_, h3 a (by simp), h3 b (by simp), h3 c (by simp), h3 d (by simp)⟩
  obtain ⟨l⟩ := cs
  simp only [List.map_cons, List.map_nil] at h1
  subst h1
  rfl

set_option maxRecDepth 100000 in
theorem sightContains_lifted (os : Os) (started : os.Started) (H : Type) (enc : TypeId × Value → H) :
    ReturnsInHanded {} Try.checked os 6 .any (Rows.sightContainsSpec.pre6 enc Try.prog Try.f6 [] false) (Rows.sightContainsSpec.post enc Try.prog Try.f6 false true false false) := by
  refine law_lifted (C := Try.checked) own started (by kernel_rfl) Try.func6 rfl (fun ds hds => ?_) (tb := 4) (by kernel_rfl) Try.underlying4 laidOut (fun t ht => ?_)
    (ChangeSpec.witness6 (enc := enc) (C := Try.checked) false ⟨#[], #[.agg #[.int .u16 0, .int .u16 0, .int .u16 0, .int .u16 0, .int .u16 0, .int .u16 0, .int .u16 0, .int .u16 0], .agg #[.int .u16 0, .int .u16 0, .int .u16 0, .int .u16 0]], []⟩ 8 (by kernel_rfl) (by kernel_rfl) (by kernel_rfl) (by kernel_rfl)) ?_
  · rw [Try.params6] at hds
    match ds, hds with
    | [_, _], _ => rfl
  · have := List.all_eq_true.1 (show (Try.f6.params.toList.all fun t => Try.prog.readableRec t && decide (t < Try.prog.types.size)) = true by kernel_rfl) t ht
    simp only [Bool.and_eq_true, decide_eq_true_eq] at this
    exact this
  · intro W args g
    rw [Try.params6] at g
    obtain ⟨v0, q0, e0, g0, h0⟩ := g.cons_inv
    obtain ⟨v1, q1, rfl, g1, h1⟩ := h0.cons_inv
    obtain rfl := h1.nil_inv
    obtain rfl : args = #[v0, v1] := by cases args; simp_all
    obtain ⟨c0, y0, rfl, r0⟩ := g0.arr Try.underlying35 opens8
    obtain ⟨c1, y1, rfl, r1⟩ := g1.arr Try.underlying42 opens4
    obtain ⟨a, b, c, d, e, f, g, k, e0, x1, x2, x3, x4, x5, x6, x7, x8⟩ := arr8_of r0
    obtain ⟨a', b', c', d', e1, z1, z2, z3, z4⟩ := arr4_of r1
    rw [e0, e1]
    exact contains_walk _ _ _ _ _ _ _ _ _ _ _ _ W x1 x2 x3 x4 x5 x6 x7 x8 z1 z2 z3 z4

theorem sightContains_holds : Rows.SightContainsSaid :=
  OpenClaim.holds_of_wide 6 Try.f6 rfl rfl rfl rfl rfl rfl rfl ⟨rfl, rfl, rfl, rfl, rfl⟩ rfl rfl rfl rfl rfl (by kernel_rfl) Try.func6 (by kernel_rfl)
    (of_decide_eq_true (by kernel_rfl)) (by unfold Func.isWrapper; first | (rw [if_pos (by decide +kernel)]; kernel_rfl) | (rw [if_neg (by decide +kernel)]; exact ⟨rfl, rfl⟩))
    (fun os started H enc _ => sightContains_lifted os started H enc)
#print axioms sightContains_holds

end Go.Proofs.Ytbphalaajhnnjaa
