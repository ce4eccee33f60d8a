/- Layer 9 (sight): the walk of the reference's Crosses, where the sides decide. -/
import Derived.Test.YtbphalaajhnnjaaSightB
namespace Go.Proofs.Ytbphalaajhnnjaa
open Go.RowKit
set_option linter.unusedVariables false

theorem turn_is (n : Int) (ax ay bx b_y px py : Int) (w : World) (hn : Hid (n = turnZ (sideZ ax ay bx b_y px py))) :
    Calls Try.prog 22 #[.agg #[.int .i64 ax, .int .i64 ay], .agg #[.int .i64 bx, .int .i64 b_y], .agg #[.int .i64 px, .int .i64 py]] w
      fun e w' => e = .returned (.int .i64 n) ∧ Below w.heap.size w w' := by
  have := turn_any ax ay bx b_y px py w
  rw [← hn.out] at this
  exact this

set_option maxHeartbeats 2000000 in
theorem rcrosses_main (ax ay bx b_y x y x2 y2 : Int) (n1 n2 n3 n4 : Int) (w : World) (hz : Hid (∀ z ∈ [ax, ay, bx, b_y, x, y, x2, y2], fits z)) (h : inB ax ay bx b_y x y x2 y2 = true) (hf : farB ax ay bx b_y x y x2 y2 = false)
    (t1 : Hid (n1 = turnZ (sideZ ax ay bx b_y x y))) (t2 : Hid (n2 = turnZ (sideZ ax ay bx b_y x2 y))) (t3 : Hid (n3 = turnZ (sideZ ax ay bx b_y x y2))) (t4 : Hid (n4 = turnZ (sideZ ax ay bx b_y x2 y2))) :
    Calls Try.prog 12 #[.agg #[.int .i64 ax, .int .i64 ay], .agg #[.int .i64 bx, .int .i64 b_y], .agg #[.int .i64 x, .int .i64 y, .int .i64 x2, .int .i64 y2]] w
      fun e w' => e = .returned (.bool (!(decide (0 < n1) && decide (0 < n2) && decide (0 < n3) && decide (0 < n4)) && !(decide (n1 < 0) && decide (n2 < 0) && decide (n3 < 0) && decide (n4 < 0)))) ∧ Below w.heap.size w w' := by
  obtain ⟨hc, ⟨a1, a2⟩, ⟨a3, a4⟩, ⟨a5, a6⟩, ⟨a7, a8⟩, ⟨a9, a10, a11⟩, a12, a13, a14⟩ := inB_out h
  have Hc := Lib.hid hc
  clear hc h
  obtain ⟨⟨⟨f1, f2⟩, f3⟩, f4⟩ : ((x ≤ max ax bx ∧ min ax bx ≤ x2) ∧ y ≤ max ay b_y) ∧ min ay b_y ≤ y2 := by
    unfold farB at hf
    simpa using hf
  clear hf
  have hmx := ite_max
  have hmn := ite_min
  go_enter Try.func12, Try.ntmps12
  go_wp2_with fail
  refine (ok_is true _ _ _ 8 8 [ax, ay, bx, b_y, x, y, x2, y2] (elems_new _ _ 3 _ (by simp) hz.out) rfl (by omega) Hc).mono ?_
  rintro e w' ⟨rfl, rfl⟩
  go_wp2_with fail
  have hW : Below w.heap.size w (((((w.alloc (.cells #[.int .i64 ax, .int .i64 ay] 23)).alloc (.cells #[.int .i64 bx, .int .i64 b_y] 23)).alloc (.cells #[.int .i64 x, .int .i64 y, .int .i64 x2, .int .i64 y2] 25)).alloc
      (.cells #[.int .i64 ax, .int .i64 ay, .int .i64 bx, .int .i64 b_y, .int .i64 x, .int .i64 y, .int .i64 x2, .int .i64 y2] 3))) :=
    ((((Below.refl _ _).alloc (by simp) _).alloc (by simp) _).alloc (by simp; omega) _).alloc (by simp; omega) _
  refine (turn_is n1 _ _ _ _ _ _ _ t1).mono ?_
  rintro e w1 ⟨rfl, hb1⟩
  obtain ⟨c1, g1⟩ := old_cells hb1
  clear g1
  go_wp2_with fail
  refine (turn_is n2 _ _ _ _ _ _ _ t2).mono ?_
  rintro e w2 ⟨rfl, hb2⟩
  have hb2 := hb1.trans (hb2.mono hb1.size)
  clear c1 hb1
  obtain ⟨c2, g2⟩ := old_cells hb2
  clear g2
  go_wp2_with fail
  refine (turn_is n3 _ _ _ _ _ _ _ t3).mono ?_
  rintro e w3 ⟨rfl, hb3⟩
  have hb3 := hb2.trans (hb3.mono hb2.size)
  clear c2 hb2
  obtain ⟨c3, g3⟩ := old_cells hb3
  clear g3
  go_wp2_with fail
  refine (turn_is n4 _ _ _ _ _ _ _ t4).mono ?_
  rintro e w4 ⟨rfl, hb4⟩
  have hW4 := hW.trans ((hb3.trans (hb4.mono hb3.size)).mono (by simp; omega))
  clear hW hb4 hb3 c3 hmx hmn
  go_wp2
  all_goals go_ret
  all_goals refine ⟨ret_bool ?_, hW4⟩
  all_goals simp [*]
end Go.Proofs.Ytbphalaajhnnjaa
