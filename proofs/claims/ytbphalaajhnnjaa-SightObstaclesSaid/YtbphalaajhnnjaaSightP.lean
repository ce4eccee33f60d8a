/- Layer 9 (sight): plain laws of crossings: symmetry, translation. -/
import Derived.Test.YtbphalaajhnnjaaSightG
namespace Go.Proofs.Ytbphalaajhnnjaa
open Go.RowKit
set_option linter.unusedVariables false

abbrev co (n : Int) : Prop := 0 ≤ n ∧ n ≤ 10000

/-- The double of the area, unwrapped. -/
def ar (ax ay bx b_y px py : Int) : Int := (bx - ax) * (py - ay) - (b_y - ay) * (px - ax)

theorem mul_bd {a b : Int} (h1 : -10000 ≤ a) (h2 : a ≤ 10000) (h3 : -10000 ≤ b) (h4 : b ≤ 10000) : -100000000 ≤ a * b ∧ a * b ≤ 100000000 := by
  have e1 := sq_le (a := a) h1 h2
  have e2 := sq_le (a := b) h3 h4
  have p : 0 ≤ (a + b) * (a + b) := by
    rcases Int.le_total 0 (a + b) with h | h
    · exact Int.mul_nonneg h h
    · exact Int.mul_nonneg_of_nonpos_of_nonpos h h
  have q : 0 ≤ (a - b) * (a - b) := by
    rcases Int.le_total 0 (a - b) with h | h
    · exact Int.mul_nonneg h h
    · exact Int.mul_nonneg_of_nonpos_of_nonpos h h
  have p' : (a + b) * (a + b) = a * a + 2 * (a * b) + b * b := by grind
  have q' : (a - b) * (a - b) = a * a - 2 * (a * b) + b * b := by grind
  omega

theorem sideZ_eq {ax ay bx b_y px py : Int} (h1 : co ax) (h2 : co ay) (h3 : co bx) (h4 : co b_y) (h5 : co px) (h6 : co py) : sideZ ax ay bx b_y px py = ar ax ay bx b_y px py := by
  have e1 := mul_bd (a := bx - ax) (b := py - ay) (by omega) (by omega) (by omega) (by omega)
  have e2 := mul_bd (a := b_y - ay) (b := px - ax) (by omega) (by omega) (by omega) (by omega)
  unfold sideZ ar
  rw [IntWalk.wrap64_in (bx - ax) ⟨by omega, by omega⟩, IntWalk.wrap64_in (py - ay) ⟨by omega, by omega⟩, IntWalk.wrap64_in (b_y - ay) ⟨by omega, by omega⟩, IntWalk.wrap64_in (px - ax) ⟨by omega, by omega⟩]
  rw [IntWalk.wrap64_in ((bx - ax) * (py - ay)) ⟨by omega, by omega⟩, IntWalk.wrap64_in ((b_y - ay) * (px - ax)) ⟨by omega, by omega⟩]
  rw [IntWalk.wrap64_in _ ⟨by omega, by omega⟩]

/-- What a crossing is, in words: the rectangle is not empty, the line's own rectangle meets it, and its corners are not on one side. -/
def Cross (ax ay bx b_y x y x2 y2 : Int) : Prop :=
  (x ≤ x2 ∧ y ≤ y2) ∧ (x ≤ max ax bx ∧ min ax bx ≤ x2 ∧ y ≤ max ay b_y ∧ min ay b_y ≤ y2) ∧
  ¬ (0 < ar ax ay bx b_y x y ∧ 0 < ar ax ay bx b_y x2 y ∧ 0 < ar ax ay bx b_y x y2 ∧ 0 < ar ax ay bx b_y x2 y2) ∧
  ¬ (ar ax ay bx b_y x y < 0 ∧ ar ax ay bx b_y x2 y < 0 ∧ ar ax ay bx b_y x y2 < 0 ∧ ar ax ay bx b_y x2 y2 < 0)

theorem cross_iff {ax ay bx b_y x y x2 y2 : Int} (h1 : co ax) (h2 : co ay) (h3 : co bx) (h4 : co b_y) (h5 : co x) (h6 : co y) (h7 : co x2) (h8 : co y2) :
    crossB ax ay bx b_y x y x2 y2 = true ↔ Cross ax ay bx b_y x y x2 y2 := by
  unfold crossB Cross inB farB
  rw [sideZ_eq h1 h2 h3 h4 h5 h6, sideZ_eq h1 h2 h3 h4 h7 h6, sideZ_eq h1 h2 h3 h4 h5 h8, sideZ_eq h1 h2 h3 h4 h7 h8]
  generalize ar ax ay bx b_y x y = s1
  generalize ar ax ay bx b_y x2 y = s2
  generalize ar ax ay bx b_y x y2 = s3
  generalize ar ax ay bx b_y x2 y2 = s4
  have hall : [ax, ay, bx, b_y, x, y, x2, y2].all coordB = true := by simp [coordB]; omega
  rw [hall]
  simp only [Bool.true_and, Bool.and_eq_true, Bool.not_eq_true', Bool.or_eq_false_iff, decide_eq_true_eq, decide_eq_false_iff_not, Bool.and_eq_false_iff]
  omega

theorem crossB_congr {ax ay bx b_y x y x2 y2 cx cy dx dy z w z2 w2 : Int} (h1 : co ax) (h2 : co ay) (h3 : co bx) (h4 : co b_y) (h5 : co x) (h6 : co y) (h7 : co x2) (h8 : co y2)
    (g1 : co cx) (g2 : co cy) (g3 : co dx) (g4 : co dy) (g5 : co z) (g6 : co w) (g7 : co z2) (g8 : co w2) (h : Cross cx cy dx dy z w z2 w2 ↔ Cross ax ay bx b_y x y x2 y2) :
    crossB cx cy dx dy z w z2 w2 = crossB ax ay bx b_y x y x2 y2 := by
  rw [Bool.eq_iff_iff, cross_iff h1 h2 h3 h4 h5 h6 h7 h8, cross_iff g1 g2 g3 g4 g5 g6 g7 g8]
  exact h

theorem ar_swap (ax ay bx b_y px py : Int) : ar bx b_y ax ay px py = - ar ax ay bx b_y px py := by unfold ar; grind
theorem ar_turn (ax ay bx b_y px py : Int) : ar ay ax b_y bx py px = - ar ax ay bx b_y px py := by unfold ar; grind
theorem ar_mirror (ax ay bx b_y px py : Int) : ar (10000 - ax) ay (10000 - bx) b_y (10000 - px) py = - ar ax ay bx b_y px py := by unfold ar; grind
theorem ar_move (ax ay bx b_y px py dx dy : Int) : ar (ax + dx) (ay + dy) (bx + dx) (b_y + dy) (px + dx) (py + dy) = ar ax ay bx b_y px py := by unfold ar; grind

theorem cross_swap (ax ay bx b_y x y x2 y2 : Int) : Cross bx b_y ax ay x y x2 y2 ↔ Cross ax ay bx b_y x y x2 y2 := by
  unfold Cross; simp only [ar_swap ax ay bx b_y]; omega
theorem cross_turn (ax ay bx b_y x y x2 y2 : Int) : Cross ay ax b_y bx y x y2 x2 ↔ Cross ax ay bx b_y x y x2 y2 := by
  unfold Cross; simp only [ar_turn ax ay bx b_y]; omega
theorem cross_mirror (ax ay bx b_y x y x2 y2 : Int) : Cross (10000 - ax) ay (10000 - bx) b_y (10000 - x2) y (10000 - x) y2 ↔ Cross ax ay bx b_y x y x2 y2 := by
  unfold Cross; simp only [ar_mirror ax ay bx b_y]; omega
theorem cross_move (ax ay bx b_y x y x2 y2 dx dy : Int) : Cross (ax + dx) (ay + dy) (bx + dx) (b_y + dy) (x + dx) (y + dy) (x2 + dx) (y2 + dy) ↔ Cross ax ay bx b_y x y x2 y2 := by
  unfold Cross; simp only [ar_move ax ay bx b_y]; omega
end Go.Proofs.Ytbphalaajhnnjaa
