/- Layer 12 (resolve): whether the numbers of an item are in range. -/
import Derived.Test.YtecjhniomjmocaaResB
namespace Go.Proofs.Ytecjhniomjmocaa
open Go.RowKit
set_option linter.unusedVariables false
set_option linter.unusedSimpArgs false
attribute [local go_sem] ext_cell ext_frozen lt_ext ext_drew

set_option maxRecDepth 100000 in
set_option maxHeartbeats 4000000 in
theorem ratio_any (num den most : Int) (has : Bool) (w : World) (hm : most = 1 ∨ most = 10) (hn : fits num) (hd : fits den) :
    Calls Try.prog 41 #[.agg #[.int .i64 num, .int .i64 den], .bool has, .int .i64 most] w fun e w' => e = .returned (.bool (ratioP (num, den) has most)) ∧ Below w.heap.size w w' := by
  cases has
  · by_cases h0 : num = 0 ∧ den = 0
    · obtain ⟨rfl, rfl⟩ := h0
      have e : ratioP (0, 0) false most = true := by unfold ratioP; simp
      rw [e]
      go_enter Try.func41, Try.ntmps41
      go_wp2_with fail
      go_ret
      exact ⟨rfl, by (repeat (first | with_reducible exact Below.refl _ _ | with_reducible assumption | with_reducible refine Below.alloc0 ?_ _ | with_reducible refine Below.ext0 ?_ _ | with_reducible refine Below.drew ?_ | with_reducible refine below_drewN ?_ _ | (with_reducible refine Below.setCell (hp := ?hp) ?_ _; case hp => (first | (simp; done) | (simp; omega)))))⟩
    · have e : ratioP (num, den) false most = false := by
        unfold ratioP
        rw [if_neg (by decide)]
        refine decide_eq_false fun h => h0 ?_
        injection h with h1 h2
        exact ⟨h1, h2⟩
      rw [e]
      have hc : (¬ num = 0) ∨ (num = 0 ∧ ¬ den = 0) := by omega
      clear e h0
      rcases hc with q1 | ⟨rfl, q2⟩
      all_goals
        go_enter Try.func41, Try.ntmps41
        go_wp2_with fail
        go_ret
        exact ⟨rfl, by (repeat (first | with_reducible exact Below.refl _ _ | with_reducible assumption | with_reducible refine Below.alloc0 ?_ _ | with_reducible refine Below.ext0 ?_ _ | with_reducible refine Below.drew ?_ | with_reducible refine below_drewN ?_ _ | (with_reducible refine Below.setCell (hp := ?hp) ?_ _; case hp => (first | (simp; done) | (simp; omega)))))⟩
  · have e : ratioP (num, den) true most = (decide (1 ≤ den) && decide (den ≤ 1000000) && decide (0 ≤ num) && decide (num ≤ most * den) && decide (num ≤ 1000000)) := rfl
    rw [e]
    clear e
    unfold fits at hn hd
    obtain ⟨a1, a2⟩ := hn
    obtain ⟨b1, b2⟩ := hd
    by_cases q1 : 1 ≤ den
    · by_cases q2 : den ≤ 1000000
      · by_cases q3 : 0 ≤ num
        · obtain ⟨p, hp⟩ : ∃ p, most * den = p := ⟨_, rfl⟩
          have hp2 : 0 ≤ p ∧ p ≤ 10000000 := by rcases hm with rfl | rfl <;> omega
          obtain ⟨p1, p2⟩ := hp2
          have Hp := Lib.hid hp
          rw [hp]
          by_cases q4 : num ≤ p
          · by_cases q5 : num ≤ 1000000
            · rw [decide_eq_true q1, decide_eq_true q2, decide_eq_true q3, decide_eq_true q4, decide_eq_true q5]
              go_enter Try.func41, Try.ntmps41
              go_wp2_with fail
              go_ret
              exact ⟨rfl, by (repeat (first | with_reducible exact Below.refl _ _ | with_reducible assumption | with_reducible refine Below.alloc0 ?_ _ | with_reducible refine Below.ext0 ?_ _ | with_reducible refine Below.drew ?_ | with_reducible refine below_drewN ?_ _ | (with_reducible refine Below.setCell (hp := ?hp) ?_ _; case hp => (first | (simp; done) | (simp; omega)))))⟩
            · rw [decide_eq_true q1, decide_eq_true q2, decide_eq_true q3, decide_eq_true q4, decide_eq_false q5]
              go_enter Try.func41, Try.ntmps41
              go_wp2_with fail
              go_ret
              exact ⟨rfl, by (repeat (first | with_reducible exact Below.refl _ _ | with_reducible assumption | with_reducible refine Below.alloc0 ?_ _ | with_reducible refine Below.ext0 ?_ _ | with_reducible refine Below.drew ?_ | with_reducible refine below_drewN ?_ _ | (with_reducible refine Below.setCell (hp := ?hp) ?_ _; case hp => (first | (simp; done) | (simp; omega)))))⟩
          · rw [decide_eq_true q1, decide_eq_true q2, decide_eq_true q3, decide_eq_false q4]
            go_enter Try.func41, Try.ntmps41
            go_wp2_with fail
            go_ret
            exact ⟨rfl, by (repeat (first | with_reducible exact Below.refl _ _ | with_reducible assumption | with_reducible refine Below.alloc0 ?_ _ | with_reducible refine Below.ext0 ?_ _ | with_reducible refine Below.drew ?_ | with_reducible refine below_drewN ?_ _ | (with_reducible refine Below.setCell (hp := ?hp) ?_ _; case hp => (first | (simp; done) | (simp; omega)))))⟩
        · rw [decide_eq_true q1, decide_eq_true q2, decide_eq_false q3]
          go_enter Try.func41, Try.ntmps41
          go_wp2_with fail
          go_ret
          exact ⟨rfl, by (repeat (first | with_reducible exact Below.refl _ _ | with_reducible assumption | with_reducible refine Below.alloc0 ?_ _ | with_reducible refine Below.ext0 ?_ _ | with_reducible refine Below.drew ?_ | with_reducible refine below_drewN ?_ _ | (with_reducible refine Below.setCell (hp := ?hp) ?_ _; case hp => (first | (simp; done) | (simp; omega)))))⟩
      · rw [decide_eq_true q1, decide_eq_false q2]
        go_enter Try.func41, Try.ntmps41
        go_wp2_with fail
        go_ret
        exact ⟨rfl, by (repeat (first | with_reducible exact Below.refl _ _ | with_reducible assumption | with_reducible refine Below.alloc0 ?_ _ | with_reducible refine Below.ext0 ?_ _ | with_reducible refine Below.drew ?_ | with_reducible refine below_drewN ?_ _ | (with_reducible refine Below.setCell (hp := ?hp) ?_ _; case hp => (first | (simp; done) | (simp; omega)))))⟩
    · rw [decide_eq_false q1]
      go_enter Try.func41, Try.ntmps41
      go_wp2_with fail
      go_ret
      exact ⟨rfl, by (repeat (first | with_reducible exact Below.refl _ _ | with_reducible assumption | with_reducible refine Below.alloc0 ?_ _ | with_reducible refine Below.ext0 ?_ _ | with_reducible refine Below.drew ?_ | with_reducible refine below_drewN ?_ _ | (with_reducible refine Below.setCell (hp := ?hp) ?_ _; case hp => (first | (simp; done) | (simp; omega)))))⟩

theorem most_find (kd : Int) : (findI kd [(1, .int .i64 100), (3, .int .i64 10000000)]).getD (.int .i64 0) = .int .i64 (mostP kd) := by
  unfold mostP findI
  by_cases h1 : kd = 1
  · rw [if_pos h1, if_pos h1]; rfl
  · rw [if_neg h1, if_neg h1]
    unfold findI
    by_cases h3 : kd = 3
    · rw [if_pos h3, if_pos h3]; rfl
    · rw [if_neg h3, if_neg h3]; rfl
theorem ratio_in (num den most : Int) (has : Bool) (hm : most = 1 ∨ most = 10) (hn : fits num) (hd : fits den) (r : Bool) (h : ratioP (num, den) has most = r) : ∀ X, Calls Try.prog 41 #[.agg #[.int .i64 num, .int .i64 den], .bool has, .int .i64 most] X fun e w' => e = .returned (.bool r) ∧ Below X.heap.size X w' := fun X => by
  have := ratio_any num den most has X hm hn hd
  rwa [h] at this
set_option maxRecDepth 100000 in
set_option maxHeartbeats 2000000 in
theorem inRange_any (kd : Int) (nm : ByteArray) (AW : Option Addr) (k cw : Nat) (n rn rd sn sd att : Int) (ws : List (List Ts)) (w : World) (f1 : fits kd) (f2 : fits n) (f3 : fits rn) (f4 : fits rd) (f5 : fits sn) (f6 : fits sd) :
    Calls Try.prog 36 #[.agg #[.int .i64 kd, .string nm, .slice AW k cw, .int .i64 n, .int .i64 rn, .int .i64 rd, .int .i64 sn, .int .i64 sd, .int .i64 att]] w fun e w' => e = .returned (.bool (inRangeP (kd, nm, ws, n, (rn, rd), (sn, sd), att))) ∧ Below w.heap.size w w' := by
  have hmst : 0 ≤ mostP kd ∧ mostP kd ≤ 10000000 := by unfold mostP; repeat' split <;> omega
  obtain ⟨mo, hmo⟩ : ∃ q, mostP kd = q := ⟨_, rfl⟩
  rw [hmo] at hmst
  have Hmo := Lib.hid hmo
  obtain ⟨b1, hb1⟩ : ∃ b, ratioP (rn, rd) (decide (kd = 3) || decide (kd = 4) || decide (kd = 5)) (if kd = 4 then 10 else 1) = b := ⟨_, rfl⟩
  obtain ⟨b2, hb2⟩ : ∃ b, ratioP (sn, sd) (decide (kd = 3) || decide (kd = 4)) 1 = b := ⟨_, rfl⟩
  have he : inRangeP (kd, nm, ws, n, (rn, rd), (sn, sd), att) = (decide (0 ≤ n) && decide (n ≤ mo) && b1 && b2) := by unfold inRangeP; rw [hmo, hb1, hb2]
  rw [he]
  obtain ⟨R, hR⟩ : ∃ R, (decide (0 ≤ n) && decide (n ≤ mo) && b1 && b2) = R := ⟨_, rfl⟩
  rw [hR]
  have HR := Lib.hid hR
  clear hR
  have Hb1 := Lib.hid (ratio_in rn rd _ _ (by split <;> omega) f3 f4 b1 hb1)
  have Hb2 := Lib.hid (ratio_in sn sd 1 _ (.inl rfl) f5 f6 b2 hb2)
  clear he hb1 hb2 hmo
  have hmm := @run_makeMap Try.prog
  have hz := zeroI
  go_enter Try.func36, Try.ntmps36
  go_upto_region 2 with (first
    | (refine list_putI rfl _ _ _ _ rfl 3 3 Try.underlying109 Try.underlying3 rfl (IntMap.new_at (b := w.heap.size + 1) (by simp)) 1 rfl rfl (.int .i64 100) rfl ?_; intro wA hA oA; have HA : Hid (IntMap wA (w.heap.size + 1) [(1, .int .i64 100)] ∧ Bk wA w.heap.size #[.int .i64 kd, .string nm, .slice AW k cw, .int .i64 n, .int .i64 rn, .int .i64 rd, .int .i64 sn, .int .i64 sd, .int .i64 att] 57 ∧ Below w.heap.size w wA) := Lib.hid ⟨hA, ((Bk.new w _ _).alloc _).only oA (by omega), ((below_self w _).alloc (by simp) _).trans (oA.to_below (B := w.heap.size) (fun g hg => by omega) (by simp; omega))⟩; clear hA oA)
    | (refine list_putI rfl _ _ _ _ rfl 3 3 Try.underlying109 Try.underlying3 rfl HA.out.1 3 rfl rfl (.int .i64 10000000) rfl ?_; intro wB hB oB; have HB : Hid (IntMap wB (w.heap.size + 1) [(1, .int .i64 100), (3, .int .i64 10000000)] ∧ Bk wB w.heap.size #[.int .i64 kd, .string nm, .slice AW k cw, .int .i64 n, .int .i64 rn, .int .i64 rd, .int .i64 sn, .int .i64 sd, .int .i64 att] 57 ∧ Below w.heap.size w wB) := Lib.hid ⟨hB, HA.out.2.1.only oB (by omega), HA.out.2.2.trans (oB.to_below (B := w.heap.size) (fun g hg => by omega) HA.out.2.2.size)⟩; clear hB oB; have cb := HB.out.2.1.cell; have lb := HB.out.2.1.lt)
    | (at_lookup; refine list_findI rfl _ _ _ rfl 3 3 Try.underlying109 Try.underlying3 (.int .i64 0) (zeroI _) rfl HB.out.1 kd rfl ?_; rw [most_find, Hmo.out]))
  clear HA hmm hz
  have HK := Lib.hid HB.out.2.2
  clear HB Hmo
  have hk : kd = 3 ∨ kd = 4 ∨ kd = 5 ∨ (kd ≠ 3 ∧ kd ≠ 4 ∧ kd ≠ 5) := by omega
  rcases hk with rfl | rfl | rfl | ⟨q3, q4, q5⟩
  · simp at Hb1 Hb2
    by_cases c1 : 0 ≤ n
    · by_cases c2 : n ≤ mo
      · cases b1 <;> cases b2
        all_goals
          go_wp2_with (go_at_call 41; first | (with_reducible refine Calls.mono (Hb1.out _) ?_; rintro e w9 ⟨rfl, hb⟩; (first | (obtain ⟨u, rfl⟩ := ext_more hb; clear hb) | (obtain ⟨u, rfl⟩ := ext_more_alloc hb; clear hb) | (obtain ⟨u, rfl⟩ := ext_of hb; clear hb))) | (with_reducible refine Calls.mono (Hb2.out _) ?_; rintro e w9 ⟨rfl, hb⟩; (first | (obtain ⟨u, rfl⟩ := ext_more hb; clear hb) | (obtain ⟨u, rfl⟩ := ext_more_alloc hb; clear hb) | (obtain ⟨u, rfl⟩ := ext_of hb; clear hb))))
          go_ret
          exact ⟨ret_bool (by rw [← HR.out]; first | rfl | (simp; done) | (simp; omega) | (simp [*]; done)), by have hw := HK.out; (repeat (first | with_reducible exact Below.refl _ _ | with_reducible assumption | with_reducible refine Below.alloc0 ?_ _ | with_reducible refine Below.ext0 ?_ _ | with_reducible refine Below.drew ?_ | with_reducible refine below_drewN ?_ _ | (with_reducible refine Below.setCell (hp := ?hp) ?_ _; case hp => (first | (simp; done) | (simp; omega)))))⟩
      · have c3 : ¬ n ≤ mo := c2
        clear c3
        go_wp2_with fail
        go_ret
        exact ⟨ret_bool (by rw [← HR.out]; first | rfl | (simp; done) | (simp; omega) | (simp [*]; done)), by have hw := HK.out; (repeat (first | with_reducible exact Below.refl _ _ | with_reducible assumption | with_reducible refine Below.alloc0 ?_ _ | with_reducible refine Below.ext0 ?_ _ | with_reducible refine Below.drew ?_ | with_reducible refine below_drewN ?_ _ | (with_reducible refine Below.setCell (hp := ?hp) ?_ _; case hp => (first | (simp; done) | (simp; omega)))))⟩
    · have c3 : ¬ 0 ≤ n := c1
      clear c3
      go_wp2_with fail
      go_ret
      exact ⟨ret_bool (by rw [← HR.out]; first | rfl | (simp; done) | (simp; omega) | (simp [*]; done)), by have hw := HK.out; (repeat (first | with_reducible exact Below.refl _ _ | with_reducible assumption | with_reducible refine Below.alloc0 ?_ _ | with_reducible refine Below.ext0 ?_ _ | with_reducible refine Below.drew ?_ | with_reducible refine below_drewN ?_ _ | (with_reducible refine Below.setCell (hp := ?hp) ?_ _; case hp => (first | (simp; done) | (simp; omega)))))⟩
  · simp at Hb1 Hb2
    by_cases c1 : 0 ≤ n
    · by_cases c2 : n ≤ mo
      · cases b1 <;> cases b2
        all_goals
          go_wp2_with (go_at_call 41; first | (with_reducible refine Calls.mono (Hb1.out _) ?_; rintro e w9 ⟨rfl, hb⟩; (first | (obtain ⟨u, rfl⟩ := ext_more hb; clear hb) | (obtain ⟨u, rfl⟩ := ext_more_alloc hb; clear hb) | (obtain ⟨u, rfl⟩ := ext_of hb; clear hb))) | (with_reducible refine Calls.mono (Hb2.out _) ?_; rintro e w9 ⟨rfl, hb⟩; (first | (obtain ⟨u, rfl⟩ := ext_more hb; clear hb) | (obtain ⟨u, rfl⟩ := ext_more_alloc hb; clear hb) | (obtain ⟨u, rfl⟩ := ext_of hb; clear hb))))
          go_ret
          exact ⟨ret_bool (by rw [← HR.out]; first | rfl | (simp; done) | (simp; omega) | (simp [*]; done)), by have hw := HK.out; (repeat (first | with_reducible exact Below.refl _ _ | with_reducible assumption | with_reducible refine Below.alloc0 ?_ _ | with_reducible refine Below.ext0 ?_ _ | with_reducible refine Below.drew ?_ | with_reducible refine below_drewN ?_ _ | (with_reducible refine Below.setCell (hp := ?hp) ?_ _; case hp => (first | (simp; done) | (simp; omega)))))⟩
      · have c3 : ¬ n ≤ mo := c2
        clear c3
        go_wp2_with fail
        go_ret
        exact ⟨ret_bool (by rw [← HR.out]; first | rfl | (simp; done) | (simp; omega) | (simp [*]; done)), by have hw := HK.out; (repeat (first | with_reducible exact Below.refl _ _ | with_reducible assumption | with_reducible refine Below.alloc0 ?_ _ | with_reducible refine Below.ext0 ?_ _ | with_reducible refine Below.drew ?_ | with_reducible refine below_drewN ?_ _ | (with_reducible refine Below.setCell (hp := ?hp) ?_ _; case hp => (first | (simp; done) | (simp; omega)))))⟩
    · have c3 : ¬ 0 ≤ n := c1
      clear c3
      go_wp2_with fail
      go_ret
      exact ⟨ret_bool (by rw [← HR.out]; first | rfl | (simp; done) | (simp; omega) | (simp [*]; done)), by have hw := HK.out; (repeat (first | with_reducible exact Below.refl _ _ | with_reducible assumption | with_reducible refine Below.alloc0 ?_ _ | with_reducible refine Below.ext0 ?_ _ | with_reducible refine Below.drew ?_ | with_reducible refine below_drewN ?_ _ | (with_reducible refine Below.setCell (hp := ?hp) ?_ _; case hp => (first | (simp; done) | (simp; omega)))))⟩
  · simp at Hb1 Hb2
    by_cases c1 : 0 ≤ n
    · by_cases c2 : n ≤ mo
      · cases b1 <;> cases b2
        all_goals
          go_wp2_with (go_at_call 41; first | (with_reducible refine Calls.mono (Hb1.out _) ?_; rintro e w9 ⟨rfl, hb⟩; (first | (obtain ⟨u, rfl⟩ := ext_more hb; clear hb) | (obtain ⟨u, rfl⟩ := ext_more_alloc hb; clear hb) | (obtain ⟨u, rfl⟩ := ext_of hb; clear hb))) | (with_reducible refine Calls.mono (Hb2.out _) ?_; rintro e w9 ⟨rfl, hb⟩; (first | (obtain ⟨u, rfl⟩ := ext_more hb; clear hb) | (obtain ⟨u, rfl⟩ := ext_more_alloc hb; clear hb) | (obtain ⟨u, rfl⟩ := ext_of hb; clear hb))))
          go_ret
          exact ⟨ret_bool (by rw [← HR.out]; first | rfl | (simp; done) | (simp; omega) | (simp [*]; done)), by have hw := HK.out; (repeat (first | with_reducible exact Below.refl _ _ | with_reducible assumption | with_reducible refine Below.alloc0 ?_ _ | with_reducible refine Below.ext0 ?_ _ | with_reducible refine Below.drew ?_ | with_reducible refine below_drewN ?_ _ | (with_reducible refine Below.setCell (hp := ?hp) ?_ _; case hp => (first | (simp; done) | (simp; omega)))))⟩
      · have c3 : ¬ n ≤ mo := c2
        clear c3
        go_wp2_with fail
        go_ret
        exact ⟨ret_bool (by rw [← HR.out]; first | rfl | (simp; done) | (simp; omega) | (simp [*]; done)), by have hw := HK.out; (repeat (first | with_reducible exact Below.refl _ _ | with_reducible assumption | with_reducible refine Below.alloc0 ?_ _ | with_reducible refine Below.ext0 ?_ _ | with_reducible refine Below.drew ?_ | with_reducible refine below_drewN ?_ _ | (with_reducible refine Below.setCell (hp := ?hp) ?_ _; case hp => (first | (simp; done) | (simp; omega)))))⟩
    · have c3 : ¬ 0 ≤ n := c1
      clear c3
      go_wp2_with fail
      go_ret
      exact ⟨ret_bool (by rw [← HR.out]; first | rfl | (simp; done) | (simp; omega) | (simp [*]; done)), by have hw := HK.out; (repeat (first | with_reducible exact Below.refl _ _ | with_reducible assumption | with_reducible refine Below.alloc0 ?_ _ | with_reducible refine Below.ext0 ?_ _ | with_reducible refine Below.drew ?_ | with_reducible refine below_drewN ?_ _ | (with_reducible refine Below.setCell (hp := ?hp) ?_ _; case hp => (first | (simp; done) | (simp; omega)))))⟩
  · have d3 := decide_eq_false q3
    have d4 := decide_eq_false q4
    have d5 := decide_eq_false q5
    rw [d3, d4, d5, if_neg q4] at Hb1
    rw [d3, d4] at Hb2
    simp at Hb1 Hb2
    have p3 : ¬ kd = 3 := q3
    have p4 : ¬ kd = 4 := q4
    have p5 : ¬ kd = 5 := q5
    have e3 : (kd == 3) = false := by simpa using q3
    have e4 : (kd == 4) = false := by simpa using q4
    have e5 : (kd == 5) = false := by simpa using q5
    clear q3 q4 q5
    by_cases c1 : 0 ≤ n
    · by_cases c2 : n ≤ mo
      · cases b1 <;> cases b2
        all_goals
          go_wp2_with (go_at_call 41; first | (with_reducible refine Calls.mono (Hb1.out _) ?_; rintro e w9 ⟨rfl, hb⟩; (first | (obtain ⟨u, rfl⟩ := ext_more hb; clear hb) | (obtain ⟨u, rfl⟩ := ext_more_alloc hb; clear hb) | (obtain ⟨u, rfl⟩ := ext_of hb; clear hb))) | (with_reducible refine Calls.mono (Hb2.out _) ?_; rintro e w9 ⟨rfl, hb⟩; (first | (obtain ⟨u, rfl⟩ := ext_more hb; clear hb) | (obtain ⟨u, rfl⟩ := ext_more_alloc hb; clear hb) | (obtain ⟨u, rfl⟩ := ext_of hb; clear hb))))
          go_ret
          exact ⟨ret_bool (by rw [← HR.out]; first | rfl | (simp; done) | (simp; omega) | (simp [*]; done)), by have hw := HK.out; (repeat (first | with_reducible exact Below.refl _ _ | with_reducible assumption | with_reducible refine Below.alloc0 ?_ _ | with_reducible refine Below.ext0 ?_ _ | with_reducible refine Below.drew ?_ | with_reducible refine below_drewN ?_ _ | (with_reducible refine Below.setCell (hp := ?hp) ?_ _; case hp => (first | (simp; done) | (simp; omega)))))⟩
      · have c3 : ¬ n ≤ mo := c2
        clear c3
        go_wp2_with fail
        go_ret
        exact ⟨ret_bool (by rw [← HR.out]; first | rfl | (simp; done) | (simp; omega) | (simp [*]; done)), by have hw := HK.out; (repeat (first | with_reducible exact Below.refl _ _ | with_reducible assumption | with_reducible refine Below.alloc0 ?_ _ | with_reducible refine Below.ext0 ?_ _ | with_reducible refine Below.drew ?_ | with_reducible refine below_drewN ?_ _ | (with_reducible refine Below.setCell (hp := ?hp) ?_ _; case hp => (first | (simp; done) | (simp; omega)))))⟩
    · have c3 : ¬ 0 ≤ n := c1
      clear c3
      go_wp2_with fail
      go_ret
      exact ⟨ret_bool (by rw [← HR.out]; first | rfl | (simp; done) | (simp; omega) | (simp [*]; done)), by have hw := HK.out; (repeat (first | with_reducible exact Below.refl _ _ | with_reducible assumption | with_reducible refine Below.alloc0 ?_ _ | with_reducible refine Below.ext0 ?_ _ | with_reducible refine Below.drew ?_ | with_reducible refine below_drewN ?_ _ | (with_reducible refine Below.setCell (hp := ?hp) ?_ _; case hp => (first | (simp; done) | (simp; omega)))))⟩
end Go.Proofs.Ytecjhniomjmocaa
