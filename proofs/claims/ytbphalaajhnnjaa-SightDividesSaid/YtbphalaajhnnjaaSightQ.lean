/- Layer 9 (sight): plain laws of crossings: inclusion, division. -/
import Derived.Test.YtbphalaajhnnjaaSightP
namespace Go.Proofs.Ytbphalaajhnnjaa
open Go.RowKit
set_option linter.unusedVariables false

def lin (A B c qx qy : Int) : Int := A * qy - B * qx + c
theorem ar_lin (ax ay bx b_y px py : Int) : ar ax ay bx b_y px py = lin (bx - ax) (b_y - ay) ((b_y - ay) * ax - (bx - ax) * ay) px py := by unfold ar lin; grind

theorem mul_sign {a b : Int} (h : (0 ≤ a ∧ 0 ≤ b) ∨ (a ≤ 0 ∧ b ≤ 0)) : 0 ≤ a * b := by
  rcases h with ⟨h1, h2⟩ | ⟨h1, h2⟩
  · exact Int.mul_nonneg h1 h2
  · exact Int.mul_nonneg_of_nonpos_of_nonpos h1 h2

/-- A linear form that is above 0 at the corners of a rectangle is above 0 in it. -/
theorem lin_in {A B c x y x2 y2 qx qy : Int} (h1 : 0 < lin A B c x y) (h2 : 0 < lin A B c x2 y) (h3 : 0 < lin A B c x y2) (h4 : 0 < lin A B c x2 y2)
    (g1 : x ≤ qx) (g2 : qx ≤ x2) (g3 : y ≤ qy) (g4 : qy ≤ y2) : 0 < lin A B c qx qy := by
  have key : ∀ cx cy, lin A B c qx qy = lin A B c cx cy + A * (qy - cy) + B * (cx - qx) := fun cx cy => by unfold lin; grind
  rcases Int.le_total 0 A with hA | hA <;> rcases Int.le_total 0 B with hB | hB
  · have := key x2 y; have p := mul_sign (a := A) (b := qy - y) (.inl ⟨hA, by omega⟩); have q := mul_sign (a := B) (b := x2 - qx) (.inl ⟨hB, by omega⟩); omega
  · have := key x y; have p := mul_sign (a := A) (b := qy - y) (.inl ⟨hA, by omega⟩); have q := mul_sign (a := B) (b := x - qx) (.inr ⟨hB, by omega⟩); omega
  · have := key x2 y2; have p := mul_sign (a := A) (b := qy - y2) (.inr ⟨hA, by omega⟩); have q := mul_sign (a := B) (b := x2 - qx) (.inl ⟨hB, by omega⟩); omega
  · have := key x y2; have p := mul_sign (a := A) (b := qy - y2) (.inr ⟨hA, by omega⟩); have q := mul_sign (a := B) (b := x - qx) (.inr ⟨hB, by omega⟩); omega

theorem ar_in_pos {ax ay bx b_y x y x2 y2 qx qy : Int} (h : 0 < ar ax ay bx b_y x y ∧ 0 < ar ax ay bx b_y x2 y ∧ 0 < ar ax ay bx b_y x y2 ∧ 0 < ar ax ay bx b_y x2 y2)
    (g1 : x ≤ qx) (g2 : qx ≤ x2) (g3 : y ≤ qy) (g4 : qy ≤ y2) : 0 < ar ax ay bx b_y qx qy := by
  simp only [ar_lin] at h ⊢
  exact lin_in h.1 h.2.1 h.2.2.1 h.2.2.2 g1 g2 g3 g4
theorem ar_in_neg {ax ay bx b_y x y x2 y2 qx qy : Int} (h : ar ax ay bx b_y x y < 0 ∧ ar ax ay bx b_y x2 y < 0 ∧ ar ax ay bx b_y x y2 < 0 ∧ ar ax ay bx b_y x2 y2 < 0)
    (g1 : x ≤ qx) (g2 : qx ≤ x2) (g3 : y ≤ qy) (g4 : qy ≤ y2) : ar ax ay bx b_y qx qy < 0 := by
  have e : ∀ px py, ar bx b_y ax ay px py = - ar ax ay bx b_y px py := fun px py => ar_swap ax ay bx b_y px py
  have := ar_in_pos (ax := bx) (ay := b_y) (bx := ax) (b_y := ay) (x := x) (y := y) (x2 := x2) (y2 := y2) (qx := qx) (qy := qy) (by simp only [e]; omega) g1 g2 g3 g4
  rw [e] at this
  omega

theorem cross_wide {ax ay bx b_y x y x2 y2 wx wy wx2 wy2 : Int} (h : Cross ax ay bx b_y x y x2 y2) (g1 : wx ≤ x) (g2 : wy ≤ y) (g3 : x2 ≤ wx2) (g4 : y2 ≤ wy2) : Cross ax ay bx b_y wx wy wx2 wy2 := by
  obtain ⟨⟨e1, e2⟩, ⟨f1, f2, f3, f4⟩, n1, n2⟩ := h
  refine ⟨by omega, by omega, fun hp => n1 ?_, fun hp => n2 ?_⟩
  · exact ⟨ar_in_pos hp (by omega) (by omega) (by omega) (by omega), ar_in_pos hp (by omega) (by omega) (by omega) (by omega), ar_in_pos hp (by omega) (by omega) (by omega) (by omega), ar_in_pos hp (by omega) (by omega) (by omega) (by omega)⟩
  · exact ⟨ar_in_neg hp (by omega) (by omega) (by omega) (by omega), ar_in_neg hp (by omega) (by omega) (by omega) (by omega), ar_in_neg hp (by omega) (by omega) (by omega) (by omega), ar_in_neg hp (by omega) (by omega) (by omega) (by omega)⟩

theorem ar_a (ax ay bx b_y : Int) : ar ax ay bx b_y ax ay = 0 := by unfold ar; grind
theorem ar_b (ax ay bx b_y : Int) : ar ax ay bx b_y bx b_y = 0 := by unfold ar; grind

theorem cross_a {ax ay bx b_y x y x2 y2 : Int} (g1 : x ≤ ax) (g2 : ax ≤ x2) (g3 : y ≤ ay) (g4 : ay ≤ y2) : Cross ax ay bx b_y x y x2 y2 := by
  refine ⟨by omega, by omega, fun hp => ?_, fun hp => ?_⟩
  · have := ar_in_pos hp g1 g2 g3 g4; rw [ar_a] at this; omega
  · have := ar_in_neg hp g1 g2 g3 g4; rw [ar_a] at this; omega
theorem cross_b {ax ay bx b_y x y x2 y2 : Int} (g1 : x ≤ bx) (g2 : bx ≤ x2) (g3 : y ≤ b_y) (g4 : b_y ≤ y2) : Cross ax ay bx b_y x y x2 y2 :=
  (cross_swap ..).1 (cross_a g1 g2 g3 g4)
theorem cross_mid {ax ay bx b_y x y x2 y2 : Int} (g1 : 2 * x ≤ ax + bx) (g2 : ax + bx ≤ 2 * x2) (g3 : 2 * y ≤ ay + b_y) (g4 : ay + b_y ≤ 2 * y2) : Cross ax ay bx b_y x y x2 y2 := by
  have dbl : ∀ px py, lin (bx - ax) (b_y - ay) (2 * ((b_y - ay) * ax - (bx - ax) * ay)) (2 * px) (2 * py) = 2 * ar ax ay bx b_y px py := fun px py => by unfold lin ar; grind
  have mid : lin (bx - ax) (b_y - ay) (2 * ((b_y - ay) * ax - (bx - ax) * ay)) (ax + bx) (ay + b_y) = 0 := by unfold lin; grind
  have dbl' : ∀ px py, lin (ax - bx) (ay - b_y) (2 * ((ay - b_y) * bx - (ax - bx) * b_y)) (2 * px) (2 * py) = - (2 * ar ax ay bx b_y px py) := fun px py => by unfold lin ar; grind
  have mid' : lin (ax - bx) (ay - b_y) (2 * ((ay - b_y) * bx - (ax - bx) * b_y)) (ax + bx) (ay + b_y) = 0 := by unfold lin; grind
  refine ⟨by omega, by omega, fun hp => ?_, fun hp => ?_⟩
  · have := lin_in (A := bx - ax) (B := b_y - ay) (c := 2 * ((b_y - ay) * ax - (bx - ax) * ay)) (x := 2 * x) (y := 2 * y) (x2 := 2 * x2) (y2 := 2 * y2) (by rw [dbl]; omega) (by rw [dbl]; omega) (by rw [dbl]; omega) (by rw [dbl]; omega) g1 g2 g3 g4
    rw [mid] at this; omega
  · have := lin_in (A := ax - bx) (B := ay - b_y) (c := 2 * ((ay - b_y) * bx - (ax - bx) * b_y)) (x := 2 * x) (y := 2 * y) (x2 := 2 * x2) (y2 := 2 * y2) (by rw [dbl']; omega) (by rw [dbl']; omega) (by rw [dbl']; omega) (by rw [dbl']; omega) g1 g2 g3 g4
    rw [mid'] at this; omega

/-- The heart of division: the line ends left of k; if it is on one side of the left part it is on one side of the whole. -/
theorem left_core {ax ay bx b_y x y k x2 y2 : Int} (hx : x ≤ k) (hk : k ≤ x2) (hy : y ≤ y2) (hl : max ax bx < k) (f3 : y ≤ max ay b_y) (f4 : min ay b_y ≤ y2)
    (hp : 0 < ar ax ay bx b_y x y ∧ 0 < ar ax ay bx b_y k y ∧ 0 < ar ax ay bx b_y x y2 ∧ 0 < ar ax ay bx b_y k y2) : 0 < ar ax ay bx b_y x2 y ∧ 0 < ar ax ay bx b_y x2 y2 := by
  have step : ∀ py, ar ax ay bx b_y x2 py = ar ax ay bx b_y k py + (b_y - ay) * (k - x2) := fun py => by unfold ar; grind
  rcases Int.lt_or_le 0 (b_y - ay) with hB | hB
  · -- the line climbs: at a height of its own inside the rectangle it is left of k
    exfalso
    have hq : ∃ qy, y ≤ qy ∧ qy ≤ y2 ∧ ay ≤ qy ∧ qy ≤ b_y := ⟨max y ay, by omega, by omega, by omega, by omega⟩
    obtain ⟨qy, q1, q2, q3, q4⟩ := hq
    have h1 := ar_in_pos hp (Int.le_refl x |> fun _ => hx) (Int.le_refl k) q1 q2
    have e : ar ax ay bx b_y k qy = (bx - ax) * (qy - ay) - (b_y - ay) * (k - ax) := rfl
    rw [e] at h1
    rcases Int.le_total 0 (bx - ax) with hA | hA
    · have m1 : (bx - ax) * (qy - ay) ≤ (bx - ax) * (b_y - ay) := Int.mul_le_mul_of_nonneg_left (by omega) hA
      have m2 : (b_y - ay) * (bx - ax) ≤ (b_y - ay) * (k - ax) := Int.mul_le_mul_of_nonneg_left (by omega) (by omega)
      have e2 : (bx - ax) * (b_y - ay) = (b_y - ay) * (bx - ax) := Int.mul_comm _ _
      omega
    · have m1 : 0 ≤ (ax - bx) * (qy - ay) := mul_sign (.inl ⟨by omega, by omega⟩)
      have m2 : 0 ≤ (b_y - ay) * (k - ax) := mul_sign (.inl ⟨by omega, by omega⟩)
      have e2 : (bx - ax) * (qy - ay) = - ((ax - bx) * (qy - ay)) := by grind
      omega
  · have m : 0 ≤ (b_y - ay) * (k - x2) := mul_sign (.inr ⟨hB, by omega⟩)
    have s1 := step y
    have s2 := step y2
    omega

theorem cross_left {ax ay bx b_y x y k x2 y2 : Int} (h : Cross ax ay bx b_y x y x2 y2) (hx : x ≤ k) (hk : k ≤ x2) (hl : max ax bx < k) : Cross ax ay bx b_y x y k y2 := by
  obtain ⟨⟨e1, e2⟩, ⟨f1, f2, f3, f4⟩, n1, n2⟩ := h
  refine ⟨by omega, by omega, fun hp => n1 ?_, fun hp => n2 ?_⟩
  · have := left_core hx hk e2 hl f3 f4 hp
    exact ⟨hp.1, this.1, hp.2.2.1, this.2⟩
  · have e : ∀ px py, ar bx b_y ax ay px py = - ar ax ay bx b_y px py := fun px py => ar_swap ax ay bx b_y px py
    have := left_core (ax := bx) (ay := b_y) (bx := ax) (b_y := ay) hx hk e2 (by omega) (by omega) (by omega) (by simp only [e]; omega)
    simp only [e] at this
    omega
theorem cross_right {ax ay bx b_y x y k x2 y2 : Int} (h : Cross ax ay bx b_y x y x2 y2) (hx : x ≤ k) (hk : k ≤ x2) (hl : k < min ax bx) : Cross ax ay bx b_y k y x2 y2 := by
  have h' := (cross_mirror ..).2 h
  have := cross_left (k := 10000 - k) h' (by omega) (by omega) (by omega)
  exact (cross_mirror ..).1 this

theorem cross_divides {ax ay bx b_y x y k x2 y2 : Int} (hx : x ≤ k) (hk : k ≤ x2) : Cross ax ay bx b_y x y x2 y2 ↔ Cross ax ay bx b_y x y k y2 ∨ Cross ax ay bx b_y k y x2 y2 := by
  constructor
  · intro h
    by_cases h1 : max ax bx < k
    · exact .inl (cross_left h hx hk h1)
    by_cases h2 : k < min ax bx
    · exact .inr (cross_right h hx hk h2)
    obtain ⟨⟨e1, e2⟩, ⟨f1, f2, f3, f4⟩, n1, n2⟩ := h
    unfold Cross
    by_cases p1 : 0 < ar ax ay bx b_y x y ∧ 0 < ar ax ay bx b_y k y ∧ 0 < ar ax ay bx b_y x y2 ∧ 0 < ar ax ay bx b_y k y2
    · right
      refine ⟨by omega, by omega, fun hp => n1 ⟨p1.1, hp.2.1, p1.2.2.1, hp.2.2.2⟩, fun hp => ?_⟩
      omega
    by_cases p2 : ar ax ay bx b_y x y < 0 ∧ ar ax ay bx b_y k y < 0 ∧ ar ax ay bx b_y x y2 < 0 ∧ ar ax ay bx b_y k y2 < 0
    · right
      refine ⟨by omega, by omega, fun hp => ?_, fun hp => n2 ⟨p2.1, hp.2.1, p2.2.2.1, hp.2.2.2⟩⟩
      omega
    · exact .inl ⟨by omega, by omega, p1, p2⟩
  · rintro (h | h)
    · exact cross_wide h (by omega) (by omega) hk (by omega)
    · exact cross_wide h hx (by omega) (by omega) (by omega)
theorem cross_divides_y {ax ay bx b_y x y k x2 y2 : Int} (hy : y ≤ k) (hk : k ≤ y2) : Cross ax ay bx b_y x y x2 y2 ↔ Cross ax ay bx b_y x y x2 k ∨ Cross ax ay bx b_y x k x2 y2 := by
  rw [← cross_turn ax ay bx b_y x y x2 y2, ← cross_turn ax ay bx b_y x y x2 k, ← cross_turn ax ay bx b_y x k x2 y2]
  exact cross_divides hy hk
end Go.Proofs.Ytbphalaajhnnjaa
