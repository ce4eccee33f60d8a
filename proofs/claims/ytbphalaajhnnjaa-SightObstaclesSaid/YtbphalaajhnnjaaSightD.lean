/- Layer 9 (sight): the walks of the reference's Crosses, where no sides decide. -/
import Derived.Test.YtbphalaajhnnjaaSightB
namespace Go.Proofs.Ytbphalaajhnnjaa
open Go.RowKit
set_option linter.unusedVariables false

set_option maxRecDepth 100000 in
set_option maxHeartbeats 1000000 in
/-- Where the numbers are no coordinates or the rectangle is empty. -/
theorem rcrosses_no (ax ay bx b_y x y x2 y2 : Int) (w : World) (hz : Hid (∀ z ∈ [ax, ay, bx, b_y, x, y, x2, y2], fits z)) (h : inB ax ay bx b_y x y x2 y2 = false) :
    Calls Try.prog 12 #[.agg #[.int .i64 ax, .int .i64 ay], .agg #[.int .i64 bx, .int .i64 b_y], .agg #[.int .i64 x, .int .i64 y, .int .i64 x2, .int .i64 y2]] w
      fun e w' => e = .returned (.bool false) ∧ Below w.heap.size w w' := by
  have H := Lib.hid h
  clear h
  by_cases hc : [ax, ay, bx, b_y, x, y, x2, y2].all coordB = true
  · have Hc := Lib.hid hc
    clear hc
    by_cases h1 : x2 < x
    · go_enter Try.func12, Try.ntmps12
      go_wp2_with fail
      refine (ok_is true _ _ _ 8 8 [ax, ay, bx, b_y, x, y, x2, y2] (elems_new _ _ 3 _ (by simp) hz.out) rfl (by omega) Hc).mono ?_
      rintro e w' ⟨rfl, rfl⟩
      go_wp2
      go_ret
      exact ⟨rfl, ((((Below.refl _ _).alloc (by simp) _).alloc (by simp) _).alloc (by simp; omega) _).alloc (by simp; omega) _⟩
    · have h2 : y2 < y := by
        have := H.out
        unfold inB at this
        rw [Hc.out] at this
        simp at this
        omega
      go_enter Try.func12, Try.ntmps12
      go_wp2_with fail
      refine (ok_is true _ _ _ 8 8 [ax, ay, bx, b_y, x, y, x2, y2] (elems_new _ _ 3 _ (by simp) hz.out) rfl (by omega) Hc).mono ?_
      rintro e w' ⟨rfl, rfl⟩
      go_wp2
      go_ret
      exact ⟨rfl, ((((Below.refl _ _).alloc (by simp) _).alloc (by simp) _).alloc (by simp; omega) _).alloc (by simp; omega) _⟩
  · have Hc : Hid ([ax, ay, bx, b_y, x, y, x2, y2].all coordB = false) := by
      show _ = false
      simpa only [Bool.not_eq_true] using hc
    clear hc
    go_enter Try.func12, Try.ntmps12
    go_wp2_with fail
    refine (ok_is false _ _ _ 8 8 [ax, ay, bx, b_y, x, y, x2, y2] (elems_new _ _ 3 _ (by simp) hz.out) rfl (by omega) Hc).mono ?_
    rintro e w' ⟨rfl, rfl⟩
    go_wp2
    go_ret
    exact ⟨rfl, ((((Below.refl _ _).alloc (by simp) _).alloc (by simp) _).alloc (by simp; omega) _).alloc (by simp; omega) _⟩

set_option maxRecDepth 100000 in
set_option maxHeartbeats 1000000 in
/-- Where the rectangle lies beside the line. -/
theorem rcrosses_far (ax ay bx b_y x y x2 y2 : Int) (w : World) (hz : Hid (∀ z ∈ [ax, ay, bx, b_y, x, y, x2, y2], fits z)) (h : inB ax ay bx b_y x y x2 y2 = true) (hf : farB ax ay bx b_y x y x2 y2 = true) :
    Calls Try.prog 12 #[.agg #[.int .i64 ax, .int .i64 ay], .agg #[.int .i64 bx, .int .i64 b_y], .agg #[.int .i64 x, .int .i64 y, .int .i64 x2, .int .i64 y2]] w
      fun e w' => e = .returned (.bool false) ∧ Below w.heap.size w w' := by
  obtain ⟨hc, ⟨a1, a2⟩, ⟨a3, a4⟩, ⟨a5, a6⟩, ⟨a7, a8⟩, ⟨a9, a10, a11⟩, a12, a13, a14⟩ := inB_out h
  have Hc := Lib.hid hc
  clear hc h
  have Hf := Lib.hid hf
  clear hf
  by_cases h1 : max ax bx < x
  · have hmx := ite_max
    have hmn := ite_min
    go_enter Try.func12, Try.ntmps12
    go_wp2_with fail
    refine (ok_is true _ _ _ 8 8 [ax, ay, bx, b_y, x, y, x2, y2] (elems_new _ _ 3 _ (by simp) hz.out) rfl (by omega) Hc).mono ?_
    rintro e w' ⟨rfl, rfl⟩
    go_wp2
    go_ret
    exact ⟨rfl, ((((Below.refl _ _).alloc (by simp) _).alloc (by simp) _).alloc (by simp; omega) _).alloc (by simp; omega) _⟩
  by_cases h2 : x2 < min ax bx
  · have hmx := ite_max
    have hmn := ite_min
    go_enter Try.func12, Try.ntmps12
    go_wp2_with fail
    refine (ok_is true _ _ _ 8 8 [ax, ay, bx, b_y, x, y, x2, y2] (elems_new _ _ 3 _ (by simp) hz.out) rfl (by omega) Hc).mono ?_
    rintro e w' ⟨rfl, rfl⟩
    go_wp2
    go_ret
    exact ⟨rfl, ((((Below.refl _ _).alloc (by simp) _).alloc (by simp) _).alloc (by simp; omega) _).alloc (by simp; omega) _⟩
  by_cases h3 : max ay b_y < y
  · have hmx := ite_max
    have hmn := ite_min
    go_enter Try.func12, Try.ntmps12
    go_wp2_with fail
    refine (ok_is true _ _ _ 8 8 [ax, ay, bx, b_y, x, y, x2, y2] (elems_new _ _ 3 _ (by simp) hz.out) rfl (by omega) Hc).mono ?_
    rintro e w' ⟨rfl, rfl⟩
    go_wp2
    go_ret
    exact ⟨rfl, ((((Below.refl _ _).alloc (by simp) _).alloc (by simp) _).alloc (by simp; omega) _).alloc (by simp; omega) _⟩
  have h4 : y2 < min ay b_y := by
    have := Hf.out
    unfold farB at this
    simp only [h1, h2, h3, decide_false, Bool.false_or, decide_eq_true_eq] at this
    exact this
  have hmx := ite_max
  have hmn := ite_min
  go_enter Try.func12, Try.ntmps12
  go_wp2_with fail
  refine (ok_is true _ _ _ 8 8 [ax, ay, bx, b_y, x, y, x2, y2] (elems_new _ _ 3 _ (by simp) hz.out) rfl (by omega) Hc).mono ?_
  rintro e w' ⟨rfl, rfl⟩
  go_wp2
  go_ret
  exact ⟨rfl, ((((Below.refl _ _).alloc (by simp) _).alloc (by simp) _).alloc (by simp; omega) _).alloc (by simp; omega) _⟩


end Go.Proofs.Ytbphalaajhnnjaa
