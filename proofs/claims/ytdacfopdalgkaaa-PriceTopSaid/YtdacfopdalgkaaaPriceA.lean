/- Layers 1 and 17 (money, price): the walks of the small functions. -/
import Derived.Test.YtdacfopdalgkaaaWild
import Derived.Test.YtdacfopdalgkaaaMoneyP
import Derived.Test.YtdacfopdalgkaaaRows
import Derived.Outline
import Derived.Deep.RegionHeld3
import Derived.Deep.Cut
namespace Go.Proofs.Ytdacfopdalgkaaa
open Go.RowKit
set_option linter.unusedVariables false
set_option linter.unusedSimpArgs false

theorem within_any (n lo hi : Int) (w : World) : Calls Try.prog 30 #[.int .i64 n, .int .i64 lo, .int .i64 hi] w fun e w' => e = .returned (.bool (decide (lo ≤ n) && decide (n ≤ hi))) ∧ w = w' := by
  go_enter Try.func30, Try.ntmps30
  go_wp2
  all_goals go_ret
  all_goals exact ⟨ret_bool (by simp; try omega), rfl⟩

theorem valid_any (n : Int) (w : World) : Calls Try.prog 23 #[.int .i64 n] w fun e w' => e = .returned (.bool (validB n)) ∧ w = w' := by
  go_enter Try.func23, Try.ntmps23
  go_wp2_with (go_at_call 30; refine (within_any _ _ _ _).mono ?_; rintro e w' ⟨rfl, rfl⟩)
  go_ret
  exact ⟨rfl, rfl⟩
theorem valid_yes (n : Int) (w : World) (h : -1000000000 ≤ n ∧ n ≤ 1000000000) : Calls Try.prog 23 #[.int .i64 n] w fun e w' => e = .returned (.bool true) ∧ w = w' :=
  (valid_any n w).mono fun e w' ⟨he, hw⟩ => ⟨by rw [he, validB_in h], hw⟩
theorem valid_is (r : Bool) (n : Int) (w : World) (h : Hid (validB n = r)) : Calls Try.prog 23 #[.int .i64 n] w fun e w' => e = .returned (.bool r) ∧ w = w' :=
  (valid_any n w).mono fun e w' ⟨he, hw⟩ => ⟨by rw [he, h.out], hw⟩
theorem within_is (r : Bool) (n lo hi : Int) (w : World) (h : Hid ((decide (lo ≤ n) && decide (n ≤ hi)) = r)) : Calls Try.prog 30 #[.int .i64 n, .int .i64 lo, .int .i64 hi] w fun e w' => e = .returned (.bool r) ∧ w = w' :=
  (within_any n lo hi w).mono fun e w' ⟨he, hw⟩ => ⟨by rw [he, h.out], hw⟩

theorem rvalid_any (n : Int) (w : World) : Calls Try.prog 26 #[.int .i64 n] w fun e w' => e = .returned (.bool (validB n)) ∧ w = w' := by
  go_enter Try.func26, Try.ntmps26
  go_wp2
  all_goals go_ret
  all_goals exact ⟨ret_bool (by simp [validB]; try omega), rfl⟩
theorem rvalid_is (r : Bool) (n : Int) (w : World) (h : Hid (validB n = r)) : Calls Try.prog 26 #[.int .i64 n] w fun e w' => e = .returned (.bool r) ∧ w = w' :=
  (rvalid_any n w).mono fun e w' ⟨he, hw⟩ => ⟨by rw [he, h.out], hw⟩

theorem rratio_any (a b : Int) (w : World) : Calls Try.prog 19 #[.agg #[.int .i64 a, .int .i64 b]] w fun e w' => e = .returned (.bool (ratioB a b)) ∧ Below w.heap.size w w' := by
  go_enter Try.func19, Try.ntmps19
  go_wp2
  all_goals go_ret
  all_goals exact ⟨ret_bool (by simp [ratioB]; try omega), (Below.refl _ _).alloc (by simp) _⟩
theorem rratio_is (r : Bool) (a b : Int) (w : World) (h : Hid (ratioB a b = r)) : Calls Try.prog 19 #[.agg #[.int .i64 a, .int .i64 b]] w fun e w' => e = .returned (.bool r) ∧ Below w.heap.size w w' :=
  (rratio_any a b w).mono fun e w' ⟨he, hw⟩ => ⟨by rw [he, h.out], hw⟩

theorem ratio_any (a b : Int) (w : World) : Calls Try.prog 17 #[.int .i64 a, .int .i64 b] w fun e w' => e = .returned (.agg #[.int .i64 a, .int .i64 b]) ∧ Below w.heap.size w w' := by
  go_enter Try.func17, Try.ntmps17
  go_wp2
  first
    | (go_ret; exact ⟨rfl, (Below.refl _ _).alloc (by simp) _⟩)
    | (exact bodyPost_ret (v := .agg #[.int .i64 a, .int .i64 b]) (by simp [results, Try.results17, go_sem]) rfl ⟨rfl, ((Below.refl _ _).alloc (by simp) _)⟩)
    | (exact bodyPost_ret (v := .agg #[.int .i64 a, .int .i64 b]) (by simp [results, Try.results17, go_sem]) rfl ⟨rfl, ((Below.refl _ _).alloc (by simp) _).alloc (by simp) _⟩)
end Go.Proofs.Ytdacfopdalgkaaa
