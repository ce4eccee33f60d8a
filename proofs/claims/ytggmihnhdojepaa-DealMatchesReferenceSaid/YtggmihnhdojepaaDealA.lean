/- Layer 1 (money), as layer 34 (deal) uses it: Valid, Share, and the reference's. -/
import Derived.Test.YtggmihnhdojepaaOnly
import Derived.Test.YtggmihnhdojepaaMoneyP
import Derived.Test.YtggmihnhdojepaaRows
import Derived.Outline
import Derived.Deep.RegionHeld3
import Derived.Deep.Cut
namespace Go.Proofs.Ytggmihnhdojepaa
open Go.RowKit
set_option linter.unusedVariables false
set_option linter.unusedSimpArgs false


theorem within_any (n lo hi : Int) (w : World) : Calls Try.prog 48 #[.int .i64 n, .int .i64 lo, .int .i64 hi] w fun e w' => e = .returned (.bool (decide (lo ≤ n) && decide (n ≤ hi))) ∧ w = w' := by
  go_enter Try.func48, Try.ntmps48
  go_wp2
  all_goals go_ret
  all_goals exact ⟨ret_bool (by simp; try omega), rfl⟩

theorem valid_any (n : Int) (w : World) : Calls Try.prog 47 #[.int .i64 n] w fun e w' => e = .returned (.bool (validB n)) ∧ w = w' := by
  go_enter Try.func47, Try.ntmps47
  go_wp2_with (go_at_call 48; refine (within_any _ _ _ _).mono ?_; rintro e w' ⟨rfl, rfl⟩)
  go_ret
  exact ⟨rfl, rfl⟩
theorem valid_yes (n : Int) (w : World) (h : -1000000000 ≤ n ∧ n ≤ 1000000000) : Calls Try.prog 47 #[.int .i64 n] w fun e w' => e = .returned (.bool true) ∧ w = w' :=
  (valid_any n w).mono fun e w' ⟨he, hw⟩ => ⟨by rw [he, validB_in h], hw⟩
theorem valid_is (r : Bool) (n : Int) (w : World) (h : Hid (validB n = r)) : Calls Try.prog 47 #[.int .i64 n] w fun e w' => e = .returned (.bool r) ∧ w = w' :=
  (valid_any n w).mono fun e w' ⟨he, hw⟩ => ⟨by rw [he, h.out], hw⟩
theorem within_is (r : Bool) (n lo hi : Int) (w : World) (h : Hid ((decide (lo ≤ n) && decide (n ≤ hi)) = r)) : Calls Try.prog 48 #[.int .i64 n, .int .i64 lo, .int .i64 hi] w fun e w' => e = .returned (.bool r) ∧ w = w' :=
  (within_any n lo hi w).mono fun e w' ⟨he, hw⟩ => ⟨by rw [he, h.out], hw⟩

theorem rvalid_any (n : Int) (w : World) : Calls Try.prog 53 #[.int .i64 n] w fun e w' => e = .returned (.bool (validB n)) ∧ w = w' := by
  go_enter Try.func53, Try.ntmps53
  go_wp2
  all_goals go_ret
  all_goals exact ⟨ret_bool (by simp [validB]; try omega), rfl⟩
theorem rvalid_is (r : Bool) (n : Int) (w : World) (h : Hid (validB n = r)) : Calls Try.prog 53 #[.int .i64 n] w fun e w' => e = .returned (.bool r) ∧ w = w' :=
  (rvalid_any n w).mono fun e w' ⟨he, hw⟩ => ⟨by rw [he, h.out], hw⟩

theorem rratio_any (a b : Int) (w : World) : Calls Try.prog 40 #[.agg #[.int .i64 a, .int .i64 b]] w fun e w' => e = .returned (.bool (ratioB a b)) ∧ Below w.heap.size w w' := by
  go_enter Try.func40, Try.ntmps40
  go_wp2
  all_goals go_ret
  all_goals exact ⟨ret_bool (by simp [ratioB]; try omega), (Below.refl _ _).alloc (by simp) _⟩
theorem rratio_is (r : Bool) (a b : Int) (w : World) (h : Hid (ratioB a b = r)) : Calls Try.prog 40 #[.agg #[.int .i64 a, .int .i64 b]] w fun e w' => e = .returned (.bool r) ∧ Below w.heap.size w w' :=
  (rratio_any a b w).mono fun e w' ⟨he, hw⟩ => ⟨by rw [he, h.out], hw⟩



theorem share_end {n num den v : Int} {w w' : World} {e : Ending} (hv : Hid (validB n = true)) (hr : Hid (ratioB num den = true)) (h : roundP (n * num) den = v)
    (he : e = .returned (.tuple #[.int .i64 (if validB v then v else 0), .int .i64 (if validB v then 0 else 2)])) (hb : Below w.heap.size w w') :
    e = .returned (.tuple #[.int .i64 (shareV n num den), .int .i64 (shareE n num den)]) ∧ Below w.heap.size w w' := by
  obtain ⟨h1, h2⟩ := share_is hv.out hr.out h
  rw [h1, h2]
  exact ⟨he, hb⟩

set_option maxHeartbeats 2000000 in
theorem share_ok (n num den : Int) (w : World) (hv : -1000000000 ≤ n ∧ n ≤ 1000000000) (hr : 0 ≤ num ∧ num ≤ 1000000 ∧ 1 ≤ den ∧ den ≤ 1000000) :
    Calls Try.prog 23 #[.int .i64 n, .agg #[.int .i64 num, .int .i64 den]] w fun e w' => e = .returned (.tuple #[.int .i64 (shareV n num den), .int .i64 (shareE n num den)]) ∧ Below w.heap.size w w' := by
  have Hv := Lib.hid (validB_in hv)
  have Hr := Lib.hid (ratioB_in hr)
  obtain ⟨v1, v2⟩ := hv
  obtain ⟨r1, r2, r3, r4⟩ := hr
  obtain ⟨m1, m2⟩ := mul_bd (A := 1000000000) (B := 1000000) v1 v2 r1 r2
  have k1 : Hid ((decide (0 ≤ num) && decide (num ≤ 1000000)) = true) := by show _ = _; simp; omega
  have k2 : Hid ((decide (1 ≤ den) && decide (den ≤ 1000000)) = true) := by show _ = _; simp; omega
  have d0 : ¬ den = 0 := by omega
  go_enter Try.func23, Try.ntmps23
  go_wp2_with (first | (go_at_call 47; refine (valid_yes _ _ ⟨v1, v2⟩).mono ?_; rintro e w' ⟨rfl, rfl⟩) | (go_at_call 48; first | ((with_reducible refine (within_is true _ _ _ _ k1).mono ?_); rintro e w' ⟨rfl, rfl⟩) | ((with_reducible refine (within_is true _ _ _ _ k2).mono ?_); rintro e w' ⟨rfl, rfl⟩)))
  go_quiet (fail)
  obtain ⟨t1, t2, t3, t4, t5, t6⟩ := tdiv_parts (n * num) den 1000000000000000 r3 (by omega) (by omega)
  have od := odd_t ((n * num).tdiv den)
  have od' := odd_t ((n * num).tdiv den - 1)
  have H3 := Lib.hid t3
  have H4 := Lib.hid t4
  clear t3 t4 m1 m2
  generalize (n * num).tdiv den = T at *
  generalize (n * num).tmod den = R at *
  by_cases hR : R < 0
  · obtain ⟨q1, q2⟩ := H4.out hR
    have Hq := Lib.hid (round_at q1 q2)
    clear q1 q2 H3 H4 od
    have e1 : IntKind.i64.wrap (T - 1) = T - 1 := Go.IntWalk.i64_in _ (by omega)
    go_wp2_with fail
    go_quiet (fail)
    go_wp2_with (go_at_call 47; refine (valid_any _ _).mono ?_; rintro e w' ⟨rfl, rfl⟩)
    all_goals go_ret2
    all_goals (try simp only [Bool.not_eq_true', decide_eq_false_iff_not, Bool.not_eq_false', decide_eq_true_eq, Bool.not_eq_true, Bool.not_eq_false] at *)
    all_goals first
      | (refine share_end (v := T) Hv Hr ?_ ?_ ?_; (· (rw [Hq.out]; split <;> omega)); (· (simp [*]; done)); skip)
      | (refine share_end (v := T - 1) Hv Hr ?_ ?_ ?_; (· (rw [Hq.out]; split <;> omega)); (· (simp [*]; done)); skip)
      | (refine share_end (v := T + 1) Hv Hr ?_ ?_ ?_; (· (rw [Hq.out]; split <;> omega)); (· (simp [*]; done)); skip)
    all_goals (repeat (first | exact Below.refl _ _ | refine below_drewN ?_ _ | refine Below.alloc ?_ (by simp) _))
  · obtain ⟨q1, q2⟩ := H3.out (by omega)
    have Hq := Lib.hid (round_at q1 q2)
    clear q1 q2 H3 H4 od'
    go_wp2_with (go_at_call 47; refine (valid_any _ _).mono ?_; rintro e w' ⟨rfl, rfl⟩)
    all_goals go_ret2
    all_goals (try simp only [Bool.not_eq_true', decide_eq_false_iff_not, Bool.not_eq_false', decide_eq_true_eq, Bool.not_eq_true, Bool.not_eq_false] at *)
    all_goals first
      | (refine share_end (v := T) Hv Hr ?_ ?_ ?_; (· (rw [Hq.out]; split <;> omega)); (· (simp [*]; done)); skip)
      | (refine share_end (v := T - 1) Hv Hr ?_ ?_ ?_; (· (rw [Hq.out]; split <;> omega)); (· (simp [*]; done)); skip)
      | (refine share_end (v := T + 1) Hv Hr ?_ ?_ ?_; (· (rw [Hq.out]; split <;> omega)); (· (simp [*]; done)); skip)
    all_goals (repeat (first | exact Below.refl _ _ | refine below_drewN ?_ _ | refine Below.alloc ?_ (by simp) _))

set_option maxHeartbeats 1000000 in
theorem share_no (n num den : Int) (w : World) (h : (validB n && ratioB num den) = false) :
    Calls Try.prog 23 #[.int .i64 n, .agg #[.int .i64 num, .int .i64 den]] w fun e w' => e = .returned (.tuple #[.int .i64 0, .int .i64 1]) ∧ Below w.heap.size w w' := by
  obtain ⟨a, ha⟩ : ∃ a, validB n = a := ⟨_, rfl⟩
  obtain ⟨b, hb⟩ : ∃ b, (decide (0 ≤ num) && decide (num ≤ 1000000)) = b := ⟨_, rfl⟩
  obtain ⟨c, hc⟩ : ∃ c, (decide (1 ≤ den) && decide (den ≤ 1000000)) = c := ⟨_, rfl⟩
  have hall : (a && (b && c)) = false := by
    have e : ratioB num den = (b && c) := by subst hb hc; simp [ratioB, Bool.and_assoc]
    rw [← e, ← ha]; exact h
  have Ha := Lib.hid ha
  have Hb := Lib.hid hb
  have Hc := Lib.hid hc
  clear h ha hb hc
  cases a
  · go_enter Try.func23, Try.ntmps23
    go_wp2_with (go_at_call 47; refine (valid_is _ _ _ Ha).mono ?_; rintro e w' ⟨rfl, rfl⟩)
    go_ret2
    exact ⟨rfl, (Below.refl _ _).alloc (by simp) _⟩
  · cases b
    · go_enter Try.func23, Try.ntmps23
      go_wp2_with (first | (go_at_call 47; refine (valid_is _ _ _ Ha).mono ?_; rintro e w' ⟨rfl, rfl⟩) | (go_at_call 48; ((with_reducible refine (within_is false _ _ _ _ Hb).mono ?_); rintro e w' ⟨rfl, rfl⟩)))
      go_ret2
      exact ⟨rfl, (Below.refl _ _).alloc (by simp) _⟩
    · obtain rfl : c = false := by simpa using hall
      go_enter Try.func23, Try.ntmps23
      go_wp2_with (first | (go_at_call 47; refine (valid_is _ _ _ Ha).mono ?_; rintro e w' ⟨rfl, rfl⟩) | (go_at_call 48; first | ((with_reducible refine (within_is true _ _ _ _ Hb).mono ?_); rintro e w' ⟨rfl, rfl⟩) | ((with_reducible refine (within_is false _ _ _ _ Hc).mono ?_); rintro e w' ⟨rfl, rfl⟩)))
      go_ret2
      exact ⟨rfl, (Below.refl _ _).alloc (by simp) _⟩

theorem share_any (n num den : Int) (w : World) :
    Calls Try.prog 23 #[.int .i64 n, .agg #[.int .i64 num, .int .i64 den]] w fun e w' => e = .returned (.tuple #[.int .i64 (shareV n num den), .int .i64 (shareE n num den)]) ∧ Below w.heap.size w w' := by
  by_cases h : (validB n && ratioB num den) = true
  · have h' := h
    rw [Bool.and_eq_true] at h'
    exact share_ok n num den w (validB_out h'.1) (ratioB_out h'.2)
  · rw [Bool.not_eq_true] at h
    obtain ⟨h1, h2⟩ := share_bad h
    rw [h1, h2]
    exact share_no n num den w h
theorem share_two (v e' n num den : Int) (w : World) (h1 : Hid (shareV n num den = v)) (h2 : Hid (shareE n num den = e')) :
    Calls Try.prog 23 #[.int .i64 n, .agg #[.int .i64 num, .int .i64 den]] w fun e w' => e = .returned (.tuple #[.int .i64 v, .int .i64 e']) ∧ Below w.heap.size w w' := by
  have := share_any n num den w
  rwa [h1.out, h2.out] at this


theorem mod2_one {q : Int} (h : 0 ≤ q) : (q.tmod 2 == 1) = decide (q % 2 = 1) := by
  rw [Int.tmod_eq_emod_of_nonneg h]; rw [Bool.eq_iff_iff]; simp

set_option maxHeartbeats 2000000 in
theorem rshare_ok (n num den : Int) (w : World) (hv : -1000000000 ≤ n ∧ n ≤ 1000000000) (hr : 0 ≤ num ∧ num ≤ 1000000 ∧ 1 ≤ den ∧ den ≤ 1000000) :
    Calls Try.prog 42 #[.int .i64 n, .agg #[.int .i64 num, .int .i64 den]] w fun e w' => e = .returned (.tuple #[.int .i64 (shareV n num den), .int .i64 (shareE n num den)]) ∧ Below w.heap.size w w' := by
  have Hv := Lib.hid (validB_in hv)
  have Hr := Lib.hid (ratioB_in hr)
  obtain ⟨v1, v2⟩ := hv
  obtain ⟨r1, r2, r3, r4⟩ := hr
  obtain ⟨m1, m2⟩ := mul_bd (A := 1000000000) (B := 1000000) v1 v2 r1 r2
  have d0 : ¬ den = 0 := by omega
  go_enter Try.func42, Try.ntmps42
  go_wp2_with fail
  refine (rvalid_is true _ _ Hv).mono ?_
  rintro e w' ⟨rfl, rfl⟩
  go_wp2_with fail
  refine (rratio_is true _ _ _ Hr).mono ?_
  rintro e w1 ⟨rfl, hb⟩
  obtain ⟨hc, hf⟩ := old_cells hb
  have hz := hb.size
  have HB := Lib.hid (((Below.refl _ w).alloc (Nat.le_refl _) _).trans (hb.mono (by simp)))
  clear hb
  by_cases hx : n * num < 0
  · go_upto_region 8 with (fail)
    have ez : 0 - n * num = -(n * num) := by omega
    try rw [ez]
    obtain ⟨X, hX⟩ : ∃ X, -(n * num) = X := ⟨_, rfl⟩
    have HX : Hid (n * num = -X) := by show _ = _; omega
    rw [hX]
    have x1 : 0 ≤ X := by omega
    have x2 : X ≤ 1000000000000000 := by omega
    clear hX ez hx m1 m2
    have hq0 : 0 ≤ X / den := Int.ediv_nonneg (by omega) (by omega)
    have hq1 : X / den ≤ 1000000000000000 := Int.le_trans (Int.ediv_le_self _ (by omega)) (by omega)
    have hr0 : 0 ≤ X % den := Int.emod_nonneg _ (by omega)
    have hr1 : X % den < den := Int.emod_lt_of_pos _ (by omega)
    have hq2 : 0 ≤ X / den % 2 := by omega
    have Hq := Lib.hid (round_at (x := X) (d := den) rfl rfl)
    have Hn := Lib.hid (round_neg X den r3)
    go_wp2_with (go_at_call 53; refine (rvalid_any _ _).mono ?_; rintro e w' ⟨rfl, rfl⟩)
    all_goals go_ret2
    all_goals (try simp only [Bool.not_eq_true', decide_eq_false_iff_not, Bool.not_eq_false', decide_eq_true_eq, Bool.not_eq_true, Bool.not_eq_false, beq_iff_eq, beq_eq_false_iff_ne] at *)
    all_goals first
      | (refine share_end (v := -(X / den)) Hv Hr ?_ ?_ HB.out; (· (rw [HX.out, Hn.out, Hq.out]; split <;> omega)); (· (simp [*, validB_neg]; done)); skip)
      | (refine share_end (v := -(X / den + 1)) Hv Hr ?_ ?_ HB.out; (· (rw [HX.out, Hn.out, Hq.out]; split <;> omega)); (· (simp [*, validB_neg]; done)); skip)
  · go_upto_region 8 with (fail)
    obtain ⟨X, hX⟩ : ∃ X, n * num = X := ⟨_, rfl⟩
    have HX : Hid (n * num = X) := hX
    rw [hX]
    have x1 : 0 ≤ X := by omega
    have x2 : X ≤ 1000000000000000 := by omega
    clear hX hx m1 m2
    have hq0 : 0 ≤ X / den := Int.ediv_nonneg (by omega) (by omega)
    have hq1 : X / den ≤ 1000000000000000 := Int.le_trans (Int.ediv_le_self _ (by omega)) (by omega)
    have hr0 : 0 ≤ X % den := Int.emod_nonneg _ (by omega)
    have hr1 : X % den < den := Int.emod_lt_of_pos _ (by omega)
    have Hq := Lib.hid (round_at (x := X) (d := den) rfl rfl)
    go_wp2_with (go_at_call 53; refine (rvalid_any _ _).mono ?_; rintro e w' ⟨rfl, rfl⟩)
    all_goals go_ret2
    all_goals (try simp only [Bool.not_eq_true', decide_eq_false_iff_not, Bool.not_eq_false', decide_eq_true_eq, Bool.not_eq_true, Bool.not_eq_false, beq_iff_eq, beq_eq_false_iff_ne] at *)
    all_goals first
      | (refine share_end (v := X / den) Hv Hr ?_ ?_ HB.out; (· (rw [HX.out, Hq.out]; split <;> omega)); (· (simp [*, validB_neg]; done)); skip)
      | (refine share_end (v := X / den + 1) Hv Hr ?_ ?_ HB.out; (· (rw [HX.out, Hq.out]; split <;> omega)); (· (simp [*, validB_neg]; done)); skip)


set_option maxHeartbeats 1000000 in
theorem rshare_no (n num den : Int) (w : World) (h : (validB n && ratioB num den) = false) :
    Calls Try.prog 42 #[.int .i64 n, .agg #[.int .i64 num, .int .i64 den]] w fun e w' => e = .returned (.tuple #[.int .i64 0, .int .i64 1]) ∧ Below w.heap.size w w' := by
  obtain ⟨a, ha⟩ : ∃ a, validB n = a := ⟨_, rfl⟩
  obtain ⟨b, hb⟩ : ∃ b, ratioB num den = b := ⟨_, rfl⟩
  rw [ha, hb] at h
  have Ha := Lib.hid ha
  have Hb := Lib.hid hb
  clear ha hb
  cases a
  · go_enter Try.func42, Try.ntmps42
    go_wp2_with fail
    refine (rvalid_is false _ _ Ha).mono ?_
    rintro e w' ⟨rfl, rfl⟩
    go_wp2_with fail
    go_ret2
    exact ⟨rfl, (Below.refl _ _).alloc (by simp) _⟩
  · obtain rfl : b = false := by simpa using h
    go_enter Try.func42, Try.ntmps42
    go_wp2_with fail
    refine (rvalid_is true _ _ Ha).mono ?_
    rintro e w' ⟨rfl, rfl⟩
    go_wp2_with fail
    refine (rratio_is false _ _ _ Hb).mono ?_
    rintro e w1 ⟨rfl, hb⟩
    go_wp2_with fail
    go_ret2
    exact ⟨rfl, ((Below.refl _ w).alloc (Nat.le_refl _) _).trans (hb.mono (by simp))⟩

theorem rshare_any (n num den : Int) (w : World) :
    Calls Try.prog 42 #[.int .i64 n, .agg #[.int .i64 num, .int .i64 den]] w fun e w' => e = .returned (.tuple #[.int .i64 (shareV n num den), .int .i64 (shareE n num den)]) ∧ Below w.heap.size w w' := by
  by_cases h : (validB n && ratioB num den) = true
  · have h' := h
    rw [Bool.and_eq_true] at h'
    exact rshare_ok n num den w (validB_out h'.1) (ratioB_out h'.2)
  · rw [Bool.not_eq_true] at h
    obtain ⟨h1, h2⟩ := share_bad h
    rw [h1, h2]
    exact rshare_no n num den w h
theorem rshare_two (v e' n num den : Int) (w : World) (h1 : Hid (shareV n num den = v)) (h2 : Hid (shareE n num den = e')) :
    Calls Try.prog 42 #[.int .i64 n, .agg #[.int .i64 num, .int .i64 den]] w fun e w' => e = .returned (.tuple #[.int .i64 v, .int .i64 e']) ∧ Below w.heap.size w w' := by
  have := rshare_any n num den w
  rwa [h1.out, h2.out] at this

end Go.Proofs.Ytggmihnhdojepaa
