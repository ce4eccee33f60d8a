/- Layer 1 (money): the reference's Share; Sum. -/
import Derived.Test.YtdacfopdalgkaaaPriceB
namespace Go.Proofs.Ytdacfopdalgkaaa
open Go.RowKit
set_option linter.unusedVariables false
set_option linter.unusedSimpArgs false

theorem mod2_one {q : Int} (h : 0 ≤ q) : (q.tmod 2 == 1) = decide (q % 2 = 1) := by
  rw [Int.tmod_eq_emod_of_nonneg h]; rw [Bool.eq_iff_iff]; simp

set_option maxHeartbeats 2000000 in
theorem rshare_ok (n num den : Int) (w : World) (hv : -1000000000 ≤ n ∧ n ≤ 1000000000) (hr : 0 ≤ num ∧ num ≤ 1000000 ∧ 1 ≤ den ∧ den ≤ 1000000) :
    Calls Try.prog 27 #[.int .i64 n, .agg #[.int .i64 num, .int .i64 den]] w fun e w' => e = .returned (.tuple #[.int .i64 (shareV n num den), .int .i64 (shareE n num den)]) ∧ Below w.heap.size w w' := by
  have Hv := Lib.hid (validB_in hv)
  have Hr := Lib.hid (ratioB_in hr)
  obtain ⟨v1, v2⟩ := hv
  obtain ⟨r1, r2, r3, r4⟩ := hr
  obtain ⟨m1, m2⟩ := mul_bd (A := 1000000000) (B := 1000000) v1 v2 r1 r2
  have d0 : ¬ den = 0 := by omega
  go_enter Try.func27, Try.ntmps27
  go_wp2_with fail
  refine (rvalid_is true _ _ Hv).mono ?_
  rintro e w' ⟨rfl, rfl⟩
  go_wp2_with fail
  refine (rratio_is true _ _ _ Hr).mono ?_
  rintro e w1 ⟨rfl, hb⟩
  obtain ⟨hc, hf⟩ := old_cells hb
  have hz := hb.size
  have HB := Lib.hid (((Below.refl _ w).alloc (Nat.le_refl _) _).trans (hb.mono (by simp)))
  clear hb
  by_cases hx : n * num < 0
  · go_upto_region 8 with (fail)
    have ez : 0 - n * num = -(n * num) := by omega
    try rw [ez]
    obtain ⟨X, hX⟩ : ∃ X, -(n * num) = X := ⟨_, rfl⟩
    have HX : Hid (n * num = -X) := by show _ = _; omega
    rw [hX]
    have x1 : 0 ≤ X := by omega
    have x2 : X ≤ 1000000000000000 := by omega
    clear hX ez hx m1 m2
    have hq0 : 0 ≤ X / den := Int.ediv_nonneg (by omega) (by omega)
    have hq1 : X / den ≤ 1000000000000000 := Int.le_trans (Int.ediv_le_self _ (by omega)) (by omega)
    have hr0 : 0 ≤ X % den := Int.emod_nonneg _ (by omega)
    have hr1 : X % den < den := Int.emod_lt_of_pos _ (by omega)
    have hq2 : 0 ≤ X / den % 2 := by omega
    have Hq := Lib.hid (round_at (x := X) (d := den) rfl rfl)
    have Hn := Lib.hid (round_neg X den r3)
    go_wp2_with (go_at_call 26; refine (rvalid_any _ _).mono ?_; rintro e w' ⟨rfl, rfl⟩)
    all_goals go_ret2
    all_goals (try simp only [Bool.not_eq_true', decide_eq_false_iff_not, Bool.not_eq_false', decide_eq_true_eq, Bool.not_eq_true, Bool.not_eq_false, beq_iff_eq, beq_eq_false_iff_ne] at *)
    all_goals first
      | (refine share_end (v := -(X / den)) Hv Hr ?_ ?_ HB.out; (· (rw [HX.out, Hn.out, Hq.out]; split <;> omega)); (· (simp [*, validB_neg]; done)); skip)
      | (refine share_end (v := -(X / den + 1)) Hv Hr ?_ ?_ HB.out; (· (rw [HX.out, Hn.out, Hq.out]; split <;> omega)); (· (simp [*, validB_neg]; done)); skip)
  · go_upto_region 8 with (fail)
    obtain ⟨X, hX⟩ : ∃ X, n * num = X := ⟨_, rfl⟩
    have HX : Hid (n * num = X) := hX
    rw [hX]
    have x1 : 0 ≤ X := by omega
    have x2 : X ≤ 1000000000000000 := by omega
    clear hX hx m1 m2
    have hq0 : 0 ≤ X / den := Int.ediv_nonneg (by omega) (by omega)
    have hq1 : X / den ≤ 1000000000000000 := Int.le_trans (Int.ediv_le_self _ (by omega)) (by omega)
    have hr0 : 0 ≤ X % den := Int.emod_nonneg _ (by omega)
    have hr1 : X % den < den := Int.emod_lt_of_pos _ (by omega)
    have Hq := Lib.hid (round_at (x := X) (d := den) rfl rfl)
    go_wp2_with (go_at_call 26; refine (rvalid_any _ _).mono ?_; rintro e w' ⟨rfl, rfl⟩)
    all_goals go_ret2
    all_goals (try simp only [Bool.not_eq_true', decide_eq_false_iff_not, Bool.not_eq_false', decide_eq_true_eq, Bool.not_eq_true, Bool.not_eq_false, beq_iff_eq, beq_eq_false_iff_ne] at *)
    all_goals first
      | (refine share_end (v := X / den) Hv Hr ?_ ?_ HB.out; (· (rw [HX.out, Hq.out]; split <;> omega)); (· (simp [*, validB_neg]; done)); skip)
      | (refine share_end (v := X / den + 1) Hv Hr ?_ ?_ HB.out; (· (rw [HX.out, Hq.out]; split <;> omega)); (· (simp [*, validB_neg]; done)); skip)
end Go.Proofs.Ytdacfopdalgkaaa
