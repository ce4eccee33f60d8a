/- SightMatchesReference: both functions agree with the reference, for every points, rectangle, hall and level; no condition. The row. -/
import Derived.Test.YtbphalaajhnnjaaSightK
namespace Go.Proofs.Ytbphalaajhnnjaa
open Go.RowKit Go.ChangeAt
set_option linter.unusedVariables false

theorem own : ownKnob Try.prog.godebug = none := by kernel_rfl
theorem laidOut : laidOutB Try.prog = true := by kernel_rfl

theorem point_of {w : World} {cs : Array Value} {y : Pt} (h : tPoint.rd w w.heap.size cs.toList y) : Value.agg cs = .agg #[.int .i64 y.1, .int .i64 y.2] ∧ fits y.1 ∧ fits y.2 := by
  obtain ⟨c1, c2, e, ⟨rfl, g1⟩, rfl, g2⟩ := h
  obtain ⟨l⟩ := cs
  simp only at e
  subst e
  exact ⟨rfl, g1, g2⟩
theorem box_of {w : World} {cs : Array Value} {y : Bx} (h : tBox.rd w w.heap.size cs.toList y) : Value.agg cs = .agg #[.int .i64 y.1, .int .i64 y.2.1, .int .i64 y.2.2.1, .int .i64 y.2.2.2] ∧ fits y.1 ∧ fits y.2.1 ∧ fits y.2.2.1 ∧ fits y.2.2.2 := by
  obtain ⟨c1, r1, e, ⟨rfl, g1⟩, c2, r2, rfl, ⟨rfl, g2⟩, c3, r3, rfl, ⟨rfl, g3⟩, rfl, g4⟩ := h
  obtain ⟨l⟩ := cs
  simp only at e
  subst e
  exact ⟨rfl, g1, g2, g3, g4⟩
theorem hall_of {w : World} {cs : Array Value} {y : Hl} (h : tHall.rd w w.heap.size cs.toList y) :
    ∃ LA lc, Value.agg cs = .agg #[.string y.1, .int .i64 y.2.1.1, .int .i64 y.2.1.2, .slice LA y.2.2.length lc] ∧ y.1.size ≤ maxLen ∧ fits y.2.1.1 ∧ fits y.2.1.2 ∧ y.2.2.length ≤ lc ∧ lc ≤ maxLen ∧ Elems tLevel w w.heap.size LA y.2.2 := by
  obtain ⟨c1, r1, e, ⟨rfl, g1⟩, c2, r2, rfl, ⟨c3, c4, rfl, ⟨rfl, g3⟩, rfl, g4⟩, LA, lc, rfl, g5, g6, g7⟩ := h
  obtain ⟨l⟩ := cs
  simp only at e
  subst e
  exact ⟨LA, lc, rfl, g1, g3, g4, g5, g6, g7⟩

set_option maxRecDepth 100000 in
theorem matches_lifted (os : Os) (started : os.Started) (H : Type) (enc : TypeId × Value → H) :
    ReturnsInHanded {} Try.checked os 3 .any (Rows.sightMatchesReferenceSpec.pre6 enc Try.prog Try.f3 [] false) (Rows.sightMatchesReferenceSpec.post enc Try.prog Try.f3 false true false false) := by
  refine law_lifted (C := Try.checked) own started (by kernel_rfl) Try.func3 rfl (fun ds hds => ?_) (tb := 4) (by kernel_rfl) Try.underlying4 laidOut (fun t ht => ?_)
    (ChangeSpec.witness6 (enc := enc) (C := Try.checked) false ⟨#[], #[.agg #[.int .i64 0, .int .i64 0], .agg #[.int .i64 0, .int .i64 0], .agg #[.int .i64 0, .int .i64 0, .int .i64 0, .int .i64 0], .agg #[.string ⟨#[]⟩, .int .i64 0, .int .i64 0, .slice none 0 0], .int .i64 0], []⟩ 8 (by kernel_rfl) (by kernel_rfl) (by kernel_rfl) (by kernel_rfl)) ?_
  · rw [Try.params3] at hds
    match ds, hds with
    | [_, _, _, _, _], _ => rfl
  · have := List.all_eq_true.1 (show (Try.f3.params.toList.all fun t => Try.prog.readableRec t && decide (t < Try.prog.types.size)) = true by kernel_rfl) t ht
    simp only [Bool.and_eq_true, decide_eq_true_eq] at this
    exact this
  · intro W args g
    rw [Try.params3] at g
    obtain ⟨v0, q0, e0, g0, h0⟩ := g.cons_inv
    obtain ⟨v1, q1, rfl, g1, h1⟩ := h0.cons_inv
    obtain ⟨v2, q2, rfl, g2, h2⟩ := h1.cons_inv
    obtain ⟨v3, q3, rfl, g3, h3⟩ := h2.cons_inv
    obtain ⟨v4, q4, rfl, g4, h4⟩ := h3.cons_inv
    obtain rfl := h4.nil_inv
    obtain rfl : args = #[v0, v1, v2, v3, v4] := by cases args; simp_all
    obtain ⟨c0, y0, rfl, r0⟩ := g0.agg Try.underlying23 opensPoint
    obtain ⟨c1, y1, rfl, r1⟩ := g1.agg Try.underlying23 opensPoint
    obtain ⟨c2, y2, rfl, r2⟩ := g2.agg Try.underlying25 opensBox
    obtain ⟨c3, y3, rfl, r3⟩ := g3.agg Try.underlying28 opensHall
    obtain ⟨level, rfl, _⟩ := g4.int Try.underlying3 (by kernel_rfl)
    obtain ⟨e0, a1, a2⟩ := point_of r0
    obtain ⟨e1, a3, a4⟩ := point_of r1
    obtain ⟨e2, a5, a6, a7, a8⟩ := box_of r2
    obtain ⟨LA, lc, e3, b1, b2, b3, b4, b5, b6⟩ := hall_of r3
    rw [e0, e1, e2, e3]
    refine matches_walk _ _ _ _ _ _ _ _ _ _ _ _ _ _ _ W b6 (by unfold maxLen at b5; omega) (Lib.hid ?_) (Lib.hid ?_)
    · intro z hz
      simp only [List.mem_cons, List.not_mem_nil, or_false] at hz
      rcases hz with rfl | rfl | rfl | rfl | rfl | rfl | rfl | rfl <;> assumption
    · intro z hz
      simp only [List.mem_cons, List.not_mem_nil, or_false] at hz
      rcases hz with rfl | rfl | rfl | rfl <;> assumption

theorem sightMatches_holds : Rows.SightMatchesReferenceSaid :=
  OpenClaim.holds_of_wide 3 Try.f3 rfl rfl rfl rfl rfl rfl rfl ⟨rfl, rfl, rfl, rfl, rfl⟩ rfl rfl rfl rfl rfl (by kernel_rfl) Try.func3 (by kernel_rfl)
    (of_decide_eq_true (by kernel_rfl)) (by unfold Func.isWrapper; first | (rw [if_pos (by decide +kernel)]; kernel_rfl) | (rw [if_neg (by decide +kernel)]; exact ⟨rfl, rfl⟩))
    (fun os started H enc _ => matches_lifted os started H enc)
#print axioms sightMatches_holds
end Go.Proofs.Ytbphalaajhnnjaa
