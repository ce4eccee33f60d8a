/- PayTimes: the first yes to an attempt pays exactly if the greatest time of all operations until then is not greater than until; for every time and operations; no condition. -/
import Derived.Test.YthgiopgapkjleaaPayI
namespace Go.Proofs.Ythgiopgapkjleaa
open Go.RowKit Go.ChangeAt
set_option linter.unusedVariables false
set_option linter.unusedSimpArgs false
attribute [local go_sem] ext_cell ext_frozen lt_ext ext_drew

set_option maxRecDepth 100000 in
set_option maxHeartbeats 4000000 in
theorem times_walk (till : Int) (A : Option Addr) (ls : List OpS) (cap : Nat) (w : World) (h : Elems tOp w w.heap.size A ls) (hm : ls.length ≤ 9223372036854775807) :
    Calls Try.prog 7 #[.int .i64 till, .slice A ls.length cap] w fun e w' => e = .returned (.bool true) ∧ Below w.heap.size w w' := by
  have HH := Lib.hid h
  clear h
  go_enter Try.func7, Try.ntmps7
  go_wp2_with fail
  refine (head_any _).mono ?_
  rintro e w1 ⟨rfl, hb⟩
  have HB1 := Lib.hid hb
  clear hb
  go_wp2_with fail
  refine (bill_any 5 _ (by unfold fits; omega)).mono ?_
  rintro e w2 ⟨A2, c2, rfl, hE, hb⟩
  have HE := Lib.hid hE
  have HB2 := Lib.hid (Below.trans0 HB1.out hb)
  clear hE hb HB1
  have hEm := Lib.hid (elems_mean w2 w2.heap.size 47 cardN 5 rfl (by decide +kernel) (by unfold fits; omega))
  by_cases ht : 0 ≤ till ∧ till ≤ 1000000000
  · have hE0 : newE [(1, 5)] 5 [(cardN, 5)] till = 0 := by rw [newE_one 5 till (by omega) (by omega), if_pos ht]
    have HE0 := Lib.hid hE0
    clear hE0
    go_wp2_with fail
    refine (new_yes A2 [(1, 5)] c2 1 5 _ [(cardN, 5)] _ 1 till (w2.alloc (.cells #[.string cardN, .int .i64 5] 47)) (w2.alloc (.cells #[.string cardN, .int .i64 5] 47)).heap.size (HE.out.keep (below_self _ _) (by simp)) (hEm.out.keep (Below.refl _ _) (by simp)) (Nat.le_refl _) rfl (by omega) rfl (by omega) HE0).mono ?_
    rintro e w3 ⟨pb, mb, rfl, hp, h1, h2, hb⟩
    have n1 : w.heap.size ≤ pb := by have := HB2.out.size; simp at h1; omega
    have n2 : w.heap.size ≤ mb := by have := HB2.out.size; simp at h2; omega
    have HR := Lib.hid (Runs.mk hp (Below.trans0 (Below.alloc0 HB2.out _) hb))
    clear hp h1 h2 hb HB2 HE hEm HE0
    by_cases hlen : ls.length ≤ 100
    · have hlen' : (ls.length : Int) ≤ 100 := by omega
      go_wp2_with fail
      go_loopw [8, 9] (fun q i wr => ∃ (k m : Nat) (s : PayS), k ≤ ls.length ∧ i = .int .i64 k ∧ q = .int .i64 s.now ∧ NoYes s ∧ s.till = till ∧ s.total = 5 ∧ Runs w wr pb mb m k s) (fun _ i _ => ls.length - (intOf i).toNat)
      case atStart => exact ⟨0, 0, _, by omega, rfl, rfl, startS_no 5 till ht.1, rfl, rfl, HR.out⟩
      case round =>
        obtain ⟨k, m, s, hk, rfl, rfl, hno, htl, htt, hr⟩ := hrel
        have hE := HH.out.keep hr.low (Nat.le_refl _)
        have hok := hr.pay.ok
        have q0 := hok.now0
        have q1 := hok.now1
        have hbr : w.heap.size ≤ wr.heap.size := hr.low.size
        obtain ⟨q, hq⟩ : ∃ v, s.now = v := ⟨_, rfl⟩
        rw [hq] at q0 q1
        rw [hq]
        have Hq := Lib.hid hq
        have Hok := Lib.hid hok
        have HX := Lib.hid hr
        have Hno := Lib.hid hno
        have Htl := Lib.hid htl
        have Htt := Lib.hid htt
        clear hr hok hq HR hno htl htt
        by_cases hlt : k < ls.length
        · obtain ⟨b, off, a, y, n, rfl, hb, Hk, c0, c1, cn, f0, f1⟩ := pick_op hE hlt
          have bw : b < wr.heap.size := by omega
          clear hE
          obtain ⟨s', v, er, hs'⟩ : ∃ s' v er, stepS s (a, y, n) = (s', v, er) := ⟨_, _, _, rfl⟩
          have hstep := step_times s (a, y, n) Hno.out (by rw [Htt.out]; omega)
          have hnow := step_now s (a, y, n)
          have htot := stepS_total s (a, y, n)
          rw [hs'] at hstep hnow htot
          simp only [Hq.out, Htl.out, Htt.out] at hstep hnow htot
          have Hs' := Lib.hid hs'
          obtain ⟨q', hq'⟩ : ∃ v, s'.now = v := ⟨_, rfl⟩
          obtain ⟨st', hst'⟩ : ∃ v, s'.state = v := ⟨_, rfl⟩
          obtain ⟨ow', how'⟩ : ∃ v, s'.owed = v := ⟨_, rfl⟩
          simp only [hq', hst', how'] at hstep hnow
          have Hq' := Lib.hid hq'
          have Hst' := Lib.hid hst'
          have How' := Lib.hid how'
          have Htot := Lib.hid htot
          have hcase : (¬ a = 0 ∧ y = true ∧ er = 0 ∧ ((v = 2 ∧ q' ≤ till ∧ ow' = 0) ∨ (v = 4 ∧ till < q' ∧ ¬ ow' = 0))) ∨ ((a = 0 ∨ (¬ a = 0 ∧ y = false) ∨ (¬ a = 0 ∧ y = true ∧ ¬ er = 0)) ∧ NoYes s' ∧ ((st' = 3 ∧ till < q') ∨ (st' = 1 ∧ q' ≤ till))) := by
            obtain ⟨k1, k2⟩ := hstep
            by_cases h0 : ¬ a = 0 ∧ y = true ∧ er = 0
            · obtain ⟨k3, k4, k5⟩ := k1 h0
              refine .inl ⟨h0.1, h0.2.1, h0.2.2, ?_⟩
              by_cases h1 : q' ≤ till
              · exact .inl ⟨k3.2 h1, h1, k5.2 (k3.2 h1)⟩
              · exact .inr ⟨k4.2 (by omega), by omega, fun h => h1 (k3.1 (k5.1 h))⟩
            · have hn := k2 h0
              refine .inr ⟨?_, hn, ?_⟩
              · by_cases h1 : a = 0
                · exact .inl h1
                · cases y
                  · exact .inr (.inl ⟨h1, rfl⟩)
                  · exact .inr (.inr ⟨h1, rfl, fun h => h0 ⟨h1, rfl, h⟩⟩)
              · have hs9 := hn.state
                rw [hst', hq', htot.2] at hs9
                by_cases h1 : till < q'
                · rw [if_pos h1] at hs9; exact .inl ⟨hs9, h1⟩
                · rw [if_neg h1] at hs9; exact .inr ⟨hs9, by omega⟩
          have Hcase := Lib.hid hcase
          have Hnow := Lib.hid hnow
          clear hs' hq' hst' how' hstep hcase hnow htot
          have hmx := ite_max
          have hmxI := fun h => (show (max q n : Int) = q' by rw [Hnow.out]; unfold nowS; rw [if_pos (show tickB n = true from h)])
          have hmxN := fun h => (show q = q' by rw [Hnow.out]; unfold nowS; rw [if_neg (show ¬ tickB n = true from h)])
          have HmxI := Lib.hid hmxI
          have HmxN := Lib.hid hmxN
          clear hmxI hmxN
          have hpart : (0 ≤ n ∧ n ≤ 1000000000 ∧ Hid (tickB n = true)) ∨ (n < 0 ∧ Hid (¬ tickB n = true)) ∨ (0 ≤ n ∧ 1000000000 < n ∧ Hid (¬ tickB n = true)) := by
            by_cases h : tickB n = true
            · have := tickB_out h; exact .inl ⟨this.1, this.2, h⟩
            · have := tickB_no (by simpa using h)
              by_cases h1 : n < 0
              · exact .inr (.inl ⟨h1, h⟩)
              · exact .inr (.inr ⟨by omega, by omega, h⟩)
          rcases hpart with ⟨p1, p2, Hp⟩ | ⟨p1, Hp⟩ | ⟨p1, p2, Hp⟩
          · go_upto_region 11 with (fail)
            rw [HmxI.out Hp.out]
            clear hmx HmxI HmxN p1 Hp Hnow
            go_wp2_with fail
            refine (step_is wr pb mb m k s a y n s' v er HX.out.pay (by omega) f0 Hs').mono ?_
            rintro e w4 ⟨rfl, m', hp, ho⟩
            have hr' := HX.out.step hp ho n1 n2
            have HY := Lib.hid hr'
            have hb4 : b < w4.heap.size := by have := hr'.low.size; omega
            have hEl := HH.out.keep hr'.low (Nat.le_refl _)
            obtain ⟨b', off', a', y', n', hA, _, Hk', d0, d1, d2, _⟩ := pick_op hEl hlt
            have hsame := Hk.out.symm.trans Hk'.out
            simp only [Option.some.injEq, Prod.mk.injEq, Addr.mk.injEq, and_true] at hsame hA
            obtain ⟨rfl, rfl⟩ := hA
            obtain ⟨rfl, rfl, rfl⟩ := hsame
            clear hp ho hr' hEl Hk' c0 c1 cn
            rcases Hcase.out with ⟨h0, rfl, rfl, ⟨rfl, h1, rfl⟩ | ⟨rfl, h1, h2⟩⟩ | ⟨hc, hn, hd⟩
            · have h4 : decide (q' ≤ till) = true := by simp; omega
              have h5 : decide (till < q') = false := by simp; omega
              go_wp2_with (go_at_call 18; refine (owed_is w4 pb mb m' (k + 1) s' _ HY.out.pay How'.out).mono ?_; rintro e w' ⟨rfl, rfl⟩)
              go_ret
              exact ⟨rfl, HY.out.low⟩
            · have h3 : decide (ow' = 0) = false := by simpa using h2
              have h4 : decide (q' ≤ till) = false := by simp; omega
              have h5 : decide (till < q') = true := by simp; omega
              go_wp2_with (go_at_call 18; refine (owed_is w4 pb mb m' (k + 1) s' _ HY.out.pay How'.out).mono ?_; rintro e w' ⟨rfl, rfl⟩)
              go_ret
              exact ⟨rfl, HY.out.low⟩
            · have Hn := Lib.hid hn
              clear hn Hcase
              rcases hc with rfl | ⟨hc, rfl⟩ | ⟨hc, rfl, hc2⟩
              all_goals
                first | (have z1 : (a != 0) = true := by simpa using hc) | skip
                first | (have z2 : (er == 0) = false := by simpa using hc2) | skip
                rcases hd with ⟨rfl, hd⟩ | ⟨rfl, hd⟩
                all_goals
                  first | have h5 : decide (till < q') = true := decide_eq_true hd | have h5 : decide (till < q') = false := decide_eq_false (Int.not_lt.2 hd)
                  go_wp2_with (go_at_call 16; refine (state_is w4 pb mb m' (k + 1) s' _ HY.out.pay Hst'.out).mono ?_; rintro e w' ⟨rfl, rfl⟩)
                  go_roundw
                  case rel => exact ⟨k + 1, m', s', by omega, by go_num, by rw [Hq'.out], Hn.out, Htot.out.2, Htot.out.1, HY.out⟩
                  case measure => simp [intOf]; omega
          · obtain rfl : q' = q := (HmxN.out Hp.out).symm
            go_upto_region 11 with (fail)
            clear hmx HmxI HmxN p1 Hp Hnow
            go_wp2_with fail
            refine (step_is wr pb mb m k s a y n s' v er HX.out.pay (by omega) f0 Hs').mono ?_
            rintro e w4 ⟨rfl, m', hp, ho⟩
            have hr' := HX.out.step hp ho n1 n2
            have HY := Lib.hid hr'
            have hb4 : b < w4.heap.size := by have := hr'.low.size; omega
            have hEl := HH.out.keep hr'.low (Nat.le_refl _)
            obtain ⟨b', off', a', y', n', hA, _, Hk', d0, d1, d2, _⟩ := pick_op hEl hlt
            have hsame := Hk.out.symm.trans Hk'.out
            simp only [Option.some.injEq, Prod.mk.injEq, Addr.mk.injEq, and_true] at hsame hA
            obtain ⟨rfl, rfl⟩ := hA
            obtain ⟨rfl, rfl, rfl⟩ := hsame
            clear hp ho hr' hEl Hk' c0 c1 cn
            rcases Hcase.out with ⟨h0, rfl, rfl, ⟨rfl, h1, rfl⟩ | ⟨rfl, h1, h2⟩⟩ | ⟨hc, hn, hd⟩
            · have h4 : decide (q' ≤ till) = true := by simp; omega
              have h5 : decide (till < q') = false := by simp; omega
              go_wp2_with (go_at_call 18; refine (owed_is w4 pb mb m' (k + 1) s' _ HY.out.pay How'.out).mono ?_; rintro e w' ⟨rfl, rfl⟩)
              go_ret
              exact ⟨rfl, HY.out.low⟩
            · have h3 : decide (ow' = 0) = false := by simpa using h2
              have h4 : decide (q' ≤ till) = false := by simp; omega
              have h5 : decide (till < q') = true := by simp; omega
              go_wp2_with (go_at_call 18; refine (owed_is w4 pb mb m' (k + 1) s' _ HY.out.pay How'.out).mono ?_; rintro e w' ⟨rfl, rfl⟩)
              go_ret
              exact ⟨rfl, HY.out.low⟩
            · have Hn := Lib.hid hn
              clear hn Hcase
              rcases hc with rfl | ⟨hc, rfl⟩ | ⟨hc, rfl, hc2⟩
              all_goals
                first | (have z1 : (a != 0) = true := by simpa using hc) | skip
                first | (have z2 : (er == 0) = false := by simpa using hc2) | skip
                rcases hd with ⟨rfl, hd⟩ | ⟨rfl, hd⟩
                all_goals
                  first | have h5 : decide (till < q') = true := decide_eq_true hd | have h5 : decide (till < q') = false := decide_eq_false (Int.not_lt.2 hd)
                  go_wp2_with (go_at_call 16; refine (state_is w4 pb mb m' (k + 1) s' _ HY.out.pay Hst'.out).mono ?_; rintro e w' ⟨rfl, rfl⟩)
                  go_roundw
                  case rel => exact ⟨k + 1, m', s', by omega, by go_num, by rw [Hq'.out], Hn.out, Htot.out.2, Htot.out.1, HY.out⟩
                  case measure => simp [intOf]; omega
          · obtain rfl : q' = q := (HmxN.out Hp.out).symm
            go_upto_region 11 with (fail)
            clear hmx HmxI HmxN p1 Hp Hnow
            go_wp2_with fail
            refine (step_is wr pb mb m k s a y n s' v er HX.out.pay (by omega) f0 Hs').mono ?_
            rintro e w4 ⟨rfl, m', hp, ho⟩
            have hr' := HX.out.step hp ho n1 n2
            have HY := Lib.hid hr'
            have hb4 : b < w4.heap.size := by have := hr'.low.size; omega
            have hEl := HH.out.keep hr'.low (Nat.le_refl _)
            obtain ⟨b', off', a', y', n', hA, _, Hk', d0, d1, d2, _⟩ := pick_op hEl hlt
            have hsame := Hk.out.symm.trans Hk'.out
            simp only [Option.some.injEq, Prod.mk.injEq, Addr.mk.injEq, and_true] at hsame hA
            obtain ⟨rfl, rfl⟩ := hA
            obtain ⟨rfl, rfl, rfl⟩ := hsame
            clear hp ho hr' hEl Hk' c0 c1 cn
            rcases Hcase.out with ⟨h0, rfl, rfl, ⟨rfl, h1, rfl⟩ | ⟨rfl, h1, h2⟩⟩ | ⟨hc, hn, hd⟩
            · have h4 : decide (q' ≤ till) = true := by simp; omega
              have h5 : decide (till < q') = false := by simp; omega
              go_wp2_with (go_at_call 18; refine (owed_is w4 pb mb m' (k + 1) s' _ HY.out.pay How'.out).mono ?_; rintro e w' ⟨rfl, rfl⟩)
              go_ret
              exact ⟨rfl, HY.out.low⟩
            · have h3 : decide (ow' = 0) = false := by simpa using h2
              have h4 : decide (q' ≤ till) = false := by simp; omega
              have h5 : decide (till < q') = true := by simp; omega
              go_wp2_with (go_at_call 18; refine (owed_is w4 pb mb m' (k + 1) s' _ HY.out.pay How'.out).mono ?_; rintro e w' ⟨rfl, rfl⟩)
              go_ret
              exact ⟨rfl, HY.out.low⟩
            · have Hn := Lib.hid hn
              clear hn Hcase
              rcases hc with rfl | ⟨hc, rfl⟩ | ⟨hc, rfl, hc2⟩
              all_goals
                first | (have z1 : (a != 0) = true := by simpa using hc) | skip
                first | (have z2 : (er == 0) = false := by simpa using hc2) | skip
                rcases hd with ⟨rfl, hd⟩ | ⟨rfl, hd⟩
                all_goals
                  first | have h5 : decide (till < q') = true := decide_eq_true hd | have h5 : decide (till < q') = false := decide_eq_false (Int.not_lt.2 hd)
                  go_wp2_with (go_at_call 16; refine (state_is w4 pb mb m' (k + 1) s' _ HY.out.pay Hst'.out).mono ?_; rintro e w' ⟨rfl, rfl⟩)
                  go_roundw
                  case rel => exact ⟨k + 1, m', s', by omega, by go_num, by rw [Hq'.out], Hn.out, Htot.out.2, Htot.out.1, HY.out⟩
                  case measure => simp [intOf]; omega
        · go_wp2_with fail
          go_ret
          exact ⟨rfl, HX.out.low⟩
    · have hlen' : 100 < (ls.length : Int) := by omega
      go_wp2_with fail
      go_ret
      exact ⟨rfl, HR.out.low⟩
  · have hE0 : newE [(1, 5)] 5 [(cardN, 5)] till = 1 := by rw [newE_one 5 till (by omega) (by omega), if_neg ht]
    have HE0 := Lib.hid hE0
    clear hE0
    go_wp2_with fail
    refine (new_no A2 [(1, 5)] c2 1 5 _ [(cardN, 5)] _ 1 till (w2.alloc (.cells #[.string cardN, .int .i64 5] 47)) (w2.alloc (.cells #[.string cardN, .int .i64 5] 47)).heap.size 1 (HE.out.keep (below_self _ _) (by simp)) (hEm.out.keep (Below.refl _ _) (by simp)) (Nat.le_refl _) rfl (by omega) rfl (by omega) HE0 (by omega)).mono ?_
    rintro e w3 ⟨rfl, hb⟩
    have HB := Lib.hid (Below.trans0 (Below.alloc0 HB2.out _) hb)
    clear hb HB2 HE hEm HE0
    go_wp2_with fail
    go_ret
    exact ⟨rfl, HB.out⟩

set_option maxRecDepth 100000 in
theorem payTimes_lifted (os : Os) (started : os.Started) (H : Type) (enc : TypeId × Value → H) :
    ReturnsInHanded {} Try.checked os 7 .any (Rows.payTimesSpec.pre6 enc Try.prog Try.f7 [] false) (Rows.payTimesSpec.post enc Try.prog Try.f7 false true false false) := by
  refine law_lifted (C := Try.checked) own started (by kernel_rfl) Try.func7 rfl (fun ds hds => ?_) (tb := 4) (by kernel_rfl) Try.underlying4 laidOut (fun t ht => ?_)
    (ChangeSpec.witness6 (enc := enc) (C := Try.checked) false ⟨#[], #[.int .i64 0, .slice none 0 0], []⟩ 8 (by kernel_rfl) (by kernel_rfl) (by kernel_rfl) (by kernel_rfl)) ?_
  · rw [Try.params7] at hds
    match ds, hds with
    | [_, _], _ => rfl
  · have := List.all_eq_true.1 (show (Try.f7.params.toList.all fun t => Try.prog.readableRec t && decide (t < Try.prog.types.size)) = true by kernel_rfl) t ht
    simp only [Bool.and_eq_true, decide_eq_true_eq] at this
    exact this
  · intro W args g
    rw [Try.params7] at g
    obtain ⟨v0, q0, e0, g0, h0⟩ := g.cons_inv
    obtain ⟨v1, q1, rfl, g1, h1⟩ := h0.cons_inv
    obtain rfl := h1.nil_inv
    obtain rfl : args = #[v0, v1] := by cases args; simp_all
    obtain ⟨till, rfl, x0⟩ := g0.int Try.underlying3 (by kernel_rfl)
    obtain ⟨A, cap, ls, rfl, b1, b2, b3⟩ := g1.slice Try.underlying26 opensOps
    exact times_walk till A ls cap W b3 (by unfold maxLen at b2; omega)

theorem payTimes_holds : Rows.PayTimesSaid :=
  OpenClaim.holds_of_wide 7 Try.f7 rfl rfl rfl rfl rfl rfl rfl ⟨rfl, rfl, rfl, rfl, rfl⟩ rfl rfl rfl rfl rfl (by kernel_rfl) Try.func7 (by kernel_rfl)
    (of_decide_eq_true (by kernel_rfl)) (by unfold Func.isWrapper; first | (rw [if_pos (by decide +kernel)]; kernel_rfl) | (rw [if_neg (by decide +kernel)]; exact ⟨rfl, rfl⟩))
    (fun os started H enc _ => payTimes_lifted os started H enc)
#print axioms payTimes_holds
end Go.Proofs.Ythgiopgapkjleaa
