/- Layer 1 (money): Share. -/
import Derived.Test.YtdacfopdalgkaaaPriceA
namespace Go.Proofs.Ytdacfopdalgkaaa
open Go.RowKit
set_option linter.unusedVariables false
set_option linter.unusedSimpArgs false

theorem share_end {n num den v : Int} {w w' : World} {e : Ending} (hv : Hid (validB n = true)) (hr : Hid (ratioB num den = true)) (h : roundP (n * num) den = v)
    (he : e = .returned (.tuple #[.int .i64 (if validB v then v else 0), .int .i64 (if validB v then 0 else 2)])) (hb : Below w.heap.size w w') :
    e = .returned (.tuple #[.int .i64 (shareV n num den), .int .i64 (shareE n num den)]) ∧ Below w.heap.size w w' := by
  obtain ⟨h1, h2⟩ := share_is hv.out hr.out h
  rw [h1, h2]
  exact ⟨he, hb⟩

set_option maxHeartbeats 2000000 in
theorem share_ok (n num den : Int) (w : World) (hv : -1000000000 ≤ n ∧ n ≤ 1000000000) (hr : 0 ≤ num ∧ num ≤ 1000000 ∧ 1 ≤ den ∧ den ≤ 1000000) :
    Calls Try.prog 22 #[.int .i64 n, .agg #[.int .i64 num, .int .i64 den]] w fun e w' => e = .returned (.tuple #[.int .i64 (shareV n num den), .int .i64 (shareE n num den)]) ∧ Below w.heap.size w w' := by
  have Hv := Lib.hid (validB_in hv)
  have Hr := Lib.hid (ratioB_in hr)
  obtain ⟨v1, v2⟩ := hv
  obtain ⟨r1, r2, r3, r4⟩ := hr
  obtain ⟨m1, m2⟩ := mul_bd (A := 1000000000) (B := 1000000) v1 v2 r1 r2
  have k1 : Hid ((decide (0 ≤ num) && decide (num ≤ 1000000)) = true) := by show _ = _; simp; omega
  have k2 : Hid ((decide (1 ≤ den) && decide (den ≤ 1000000)) = true) := by show _ = _; simp; omega
  have d0 : ¬ den = 0 := by omega
  go_enter Try.func22, Try.ntmps22
  go_wp2_with (first | (go_at_call 23; refine (valid_yes _ _ ⟨v1, v2⟩).mono ?_; rintro e w' ⟨rfl, rfl⟩) | (go_at_call 30; first | ((with_reducible refine (within_is true _ _ _ _ k1).mono ?_); rintro e w' ⟨rfl, rfl⟩) | ((with_reducible refine (within_is true _ _ _ _ k2).mono ?_); rintro e w' ⟨rfl, rfl⟩)))
  go_quiet (fail)
  obtain ⟨t1, t2, t3, t4, t5, t6⟩ := tdiv_parts (n * num) den 1000000000000000 r3 (by omega) (by omega)
  have od := odd_t ((n * num).tdiv den)
  have od' := odd_t ((n * num).tdiv den - 1)
  have H3 := Lib.hid t3
  have H4 := Lib.hid t4
  clear t3 t4 m1 m2
  generalize (n * num).tdiv den = T at *
  generalize (n * num).tmod den = R at *
  by_cases hR : R < 0
  · obtain ⟨q1, q2⟩ := H4.out hR
    have Hq := Lib.hid (round_at q1 q2)
    clear q1 q2 H3 H4 od
    have e1 : IntKind.i64.wrap (T - 1) = T - 1 := Go.IntWalk.i64_in _ (by omega)
    go_wp2_with fail
    go_quiet (fail)
    go_wp2_with (go_at_call 23; refine (valid_any _ _).mono ?_; rintro e w' ⟨rfl, rfl⟩)
    all_goals go_ret2
    all_goals (try simp only [Bool.not_eq_true', decide_eq_false_iff_not, Bool.not_eq_false', decide_eq_true_eq, Bool.not_eq_true, Bool.not_eq_false] at *)
    all_goals first
      | (refine share_end (v := T) Hv Hr ?_ ?_ ?_; (· (rw [Hq.out]; split <;> omega)); (· (simp [*]; done)); skip)
      | (refine share_end (v := T - 1) Hv Hr ?_ ?_ ?_; (· (rw [Hq.out]; split <;> omega)); (· (simp [*]; done)); skip)
      | (refine share_end (v := T + 1) Hv Hr ?_ ?_ ?_; (· (rw [Hq.out]; split <;> omega)); (· (simp [*]; done)); skip)
    all_goals (repeat (first | exact Below.refl _ _ | refine below_drewN ?_ _ | refine Below.alloc ?_ (by simp) _))
  · obtain ⟨q1, q2⟩ := H3.out (by omega)
    have Hq := Lib.hid (round_at q1 q2)
    clear q1 q2 H3 H4 od'
    go_wp2_with (go_at_call 23; refine (valid_any _ _).mono ?_; rintro e w' ⟨rfl, rfl⟩)
    all_goals go_ret2
    all_goals (try simp only [Bool.not_eq_true', decide_eq_false_iff_not, Bool.not_eq_false', decide_eq_true_eq, Bool.not_eq_true, Bool.not_eq_false] at *)
    all_goals first
      | (refine share_end (v := T) Hv Hr ?_ ?_ ?_; (· (rw [Hq.out]; split <;> omega)); (· (simp [*]; done)); skip)
      | (refine share_end (v := T - 1) Hv Hr ?_ ?_ ?_; (· (rw [Hq.out]; split <;> omega)); (· (simp [*]; done)); skip)
      | (refine share_end (v := T + 1) Hv Hr ?_ ?_ ?_; (· (rw [Hq.out]; split <;> omega)); (· (simp [*]; done)); skip)
    all_goals (repeat (first | exact Below.refl _ _ | refine below_drewN ?_ _ | refine Below.alloc ?_ (by simp) _))

set_option maxHeartbeats 1000000 in
theorem share_no (n num den : Int) (w : World) (h : (validB n && ratioB num den) = false) :
    Calls Try.prog 22 #[.int .i64 n, .agg #[.int .i64 num, .int .i64 den]] w fun e w' => e = .returned (.tuple #[.int .i64 0, .int .i64 1]) ∧ Below w.heap.size w w' := by
  obtain ⟨a, ha⟩ : ∃ a, validB n = a := ⟨_, rfl⟩
  obtain ⟨b, hb⟩ : ∃ b, (decide (0 ≤ num) && decide (num ≤ 1000000)) = b := ⟨_, rfl⟩
  obtain ⟨c, hc⟩ : ∃ c, (decide (1 ≤ den) && decide (den ≤ 1000000)) = c := ⟨_, rfl⟩
  have hall : (a && (b && c)) = false := by
    have e : ratioB num den = (b && c) := by subst hb hc; simp [ratioB, Bool.and_assoc]
    rw [← e, ← ha]; exact h
  have Ha := Lib.hid ha
  have Hb := Lib.hid hb
  have Hc := Lib.hid hc
  clear h ha hb hc
  cases a
  · go_enter Try.func22, Try.ntmps22
    go_wp2_with (go_at_call 23; refine (valid_is _ _ _ Ha).mono ?_; rintro e w' ⟨rfl, rfl⟩)
    go_ret2
    exact ⟨rfl, (Below.refl _ _).alloc (by simp) _⟩
  · cases b
    · go_enter Try.func22, Try.ntmps22
      go_wp2_with (first | (go_at_call 23; refine (valid_is _ _ _ Ha).mono ?_; rintro e w' ⟨rfl, rfl⟩) | (go_at_call 30; ((with_reducible refine (within_is false _ _ _ _ Hb).mono ?_); rintro e w' ⟨rfl, rfl⟩)))
      go_ret2
      exact ⟨rfl, (Below.refl _ _).alloc (by simp) _⟩
    · obtain rfl : c = false := by simpa using hall
      go_enter Try.func22, Try.ntmps22
      go_wp2_with (first | (go_at_call 23; refine (valid_is _ _ _ Ha).mono ?_; rintro e w' ⟨rfl, rfl⟩) | (go_at_call 30; first | ((with_reducible refine (within_is true _ _ _ _ Hb).mono ?_); rintro e w' ⟨rfl, rfl⟩) | ((with_reducible refine (within_is false _ _ _ _ Hc).mono ?_); rintro e w' ⟨rfl, rfl⟩)))
      go_ret2
      exact ⟨rfl, (Below.refl _ _).alloc (by simp) _⟩

theorem share_any (n num den : Int) (w : World) :
    Calls Try.prog 22 #[.int .i64 n, .agg #[.int .i64 num, .int .i64 den]] w fun e w' => e = .returned (.tuple #[.int .i64 (shareV n num den), .int .i64 (shareE n num den)]) ∧ Below w.heap.size w w' := by
  by_cases h : (validB n && ratioB num den) = true
  · have h' := h
    rw [Bool.and_eq_true] at h'
    exact share_ok n num den w (validB_out h'.1) (ratioB_out h'.2)
  · rw [Bool.not_eq_true] at h
    obtain ⟨h1, h2⟩ := share_bad h
    rw [h1, h2]
    exact share_no n num den w h
theorem share_two (v e' n num den : Int) (w : World) (h1 : Hid (shareV n num den = v)) (h2 : Hid (shareE n num den = e')) :
    Calls Try.prog 22 #[.int .i64 n, .agg #[.int .i64 num, .int .i64 den]] w fun e w' => e = .returned (.tuple #[.int .i64 v, .int .i64 e']) ∧ Below w.heap.size w w' := by
  have := share_any n num den w
  rwa [h1.out, h2.out] at this
end Go.Proofs.Ytdacfopdalgkaaa
