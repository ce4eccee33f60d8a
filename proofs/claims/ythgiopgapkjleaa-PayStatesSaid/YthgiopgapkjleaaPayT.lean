/- PayStates: the state of a payment changes only from open, or from failed to late; a no, and an attempt, change what is owed never, and the state at most from open to failed; for every time and operations; no condition. -/
import Derived.Test.YthgiopgapkjleaaPayI
namespace Go.Proofs.Ythgiopgapkjleaa
open Go.RowKit Go.ChangeAt
set_option linter.unusedVariables false
set_option linter.unusedSimpArgs false
attribute [local go_sem] ext_cell ext_frozen lt_ext ext_drew

set_option maxRecDepth 100000 in
set_option maxHeartbeats 4000000 in
theorem states_walk (till : Int) (A : Option Addr) (ls : List OpS) (cap : Nat) (w : World) (h : Elems tOp w w.heap.size A ls) (hm : ls.length ≤ 9223372036854775807) :
    Calls Try.prog 5 #[.int .i64 till, .slice A ls.length cap] w fun e w' => e = .returned (.bool true) ∧ Below w.heap.size w w' := by
  have HH := Lib.hid h
  clear h
  go_enter Try.func5, Try.ntmps5
  go_wp2_with fail
  refine (head_any _).mono ?_
  rintro e w1 ⟨rfl, hb⟩
  have HB1 := Lib.hid hb
  clear hb
  go_wp2_with fail
  refine (bill_any 5 _ (by unfold fits; omega)).mono ?_
  rintro e w2 ⟨A2, c2, rfl, hE, hb⟩
  have HE := Lib.hid hE
  have HB2 := Lib.hid (Below.trans0 HB1.out hb)
  clear hE hb HB1
  have hEm := Lib.hid (elems_mean w2 w2.heap.size 47 cardN 5 rfl (by decide +kernel) (by unfold fits; omega))
  by_cases ht : 0 ≤ till ∧ till ≤ 1000000000
  · have hE0 : newE [(1, 5)] 5 [(cardN, 5)] till = 0 := by rw [newE_one 5 till (by omega) (by omega), if_pos ht]
    have HE0 := Lib.hid hE0
    clear hE0
    go_wp2_with fail
    refine (new_yes A2 [(1, 5)] c2 1 5 _ [(cardN, 5)] _ 1 till (w2.alloc (.cells #[.string cardN, .int .i64 5] 47)) (w2.alloc (.cells #[.string cardN, .int .i64 5] 47)).heap.size (HE.out.keep (below_self _ _) (by simp)) (hEm.out.keep (Below.refl _ _) (by simp)) (Nat.le_refl _) rfl (by omega) rfl (by omega) HE0).mono ?_
    rintro e w3 ⟨pb, mb, rfl, hp, h1, h2, hb⟩
    have n1 : w.heap.size ≤ pb := by have := HB2.out.size; simp at h1; omega
    have n2 : w.heap.size ≤ mb := by have := HB2.out.size; simp at h2; omega
    have HR := Lib.hid (Runs.mk hp (Below.trans0 (Below.alloc0 HB2.out _) hb))
    clear hp h1 h2 hb HB2 HE hEm HE0
    by_cases hlen : ls.length ≤ 100
    · have hlen' : (ls.length : Int) ≤ 100 := by omega
      go_wp2_with fail
      go_loopw [8] (fun i wr => ∃ (k m : Nat) (s : PayS), k ≤ ls.length ∧ i = .int .i64 k ∧ Runs w wr pb mb m k s) (fun i _ => ls.length - (intOf i).toNat)
      case atStart => exact ⟨0, 0, _, by omega, rfl, HR.out⟩
      case round =>
        obtain ⟨k, m, s, hk, rfl, hr⟩ := hrel
        have hE := HH.out.keep hr.low (Nat.le_refl _)
        have hok := hr.pay.ok
        have s0 := hok.state0
        have s1 := hok.state1
        have hbr : w.heap.size ≤ wr.heap.size := hr.low.size
        obtain ⟨st, hst⟩ : ∃ v, s.state = v := ⟨_, rfl⟩
        obtain ⟨ow, how⟩ : ∃ v, s.owed = v := ⟨_, rfl⟩
        rw [hst] at s0 s1
        have Hst := Lib.hid hst
        have How := Lib.hid how
        have Hok := Lib.hid hok
        have HX := Lib.hid hr
        clear hr hok hst how HR
        by_cases hlt : k < ls.length
        · obtain ⟨b, off, a, y, n, rfl, hb, Hk, c0, c1, cn, f0, f1⟩ := pick_op hE hlt
          have bw : b < wr.heap.size := by omega
          have HE := Lib.hid hE
          clear hE
          obtain ⟨s', v, er, hs'⟩ : ∃ s' v er, stepS s (a, y, n) = (s', v, er) := ⟨_, _, _, rfl⟩
          have hstep := step_states s (a, y, n) Hok.out
          have hok' := Hok.out.step (a, y, n)
          rw [hs'] at hstep hok'
          rw [Hst.out, How.out] at hstep
          have Hs' := Lib.hid hs'
          obtain ⟨st', hst'⟩ : ∃ v, s'.state = v := ⟨_, rfl⟩
          obtain ⟨ow', how'⟩ : ∃ v, s'.owed = v := ⟨_, rfl⟩
          simp only [hst', how'] at hstep
          have s0' := hok'.state0
          have s1' := hok'.state1
          rw [hst'] at s0' s1'
          have Hst' := Lib.hid hst'
          have How' := Lib.hid how'
          obtain ⟨k1, k2, k3⟩ := hstep
          have K1 := Lib.hid k1
          have K2 := Lib.hid k2
          have K3 := Lib.hid k3
          clear hs' hst' how' hok' k1 k2 k3
          go_wp2_with fail
          refine (state_is wr pb mb m k s st HX.out.pay Hst.out).mono ?_
          rintro e w' ⟨rfl, rfl⟩
          go_wp2_with fail
          refine (owed_is wr pb mb m k s ow HX.out.pay How.out).mono ?_
          rintro e w' ⟨rfl, rfl⟩
          go_wp2_with fail
          refine (step_is wr pb mb m k s a y n s' v er HX.out.pay (by omega) f0 Hs').mono ?_
          rintro e w4 ⟨rfl, m', hp, ho⟩
          have hr' := HX.out.step hp ho n1 n2
          have HY := Lib.hid hr'
          have hb4 : b < w4.heap.size := by have := hr'.low.size; omega
          have hEl := HH.out.keep hr'.low (Nat.le_refl _)
          obtain ⟨b', off', a', y', n', hA, _, Hk', d0, d1, _⟩ := pick_op hEl hlt
          have hsame := Hk.out.symm.trans Hk'.out
          simp only [Option.some.injEq, Prod.mk.injEq, Addr.mk.injEq, and_true] at hsame hA
          obtain ⟨rfl, rfl⟩ := hA
          obtain ⟨rfl, rfl, rfl⟩ := hsame
          clear hp ho hr' hEl Hk' c0 c1 cn
          go_wp2_with fail
          refine (state_is w4 pb mb m' (k + 1) s' st' HY.out.pay Hst'.out).mono ?_
          rintro e w' ⟨rfl, rfl⟩
          have hcase : (a = 0 ∧ ow' = ow ∧ (st' = st ∨ (st = 1 ∧ st' = 3))) ∨ (¬ a = 0 ∧ y = false ∧ er = 0 ∧ v = st' ∧ ow' = ow ∧ (st' = st ∨ (st = 1 ∧ st' = 3))) ∨ (¬ a = 0 ∧ y = false ∧ ¬ er = 0 ∧ ow' = ow ∧ (st' = st ∨ (st = 1 ∧ st' = 3))) ∨
              (¬ a = 0 ∧ y = true ∧ ¬ er = 0 ∧ ow' = ow ∧ (st' = st ∨ (st = 1 ∧ st' = 3))) ∨ (¬ a = 0 ∧ y = true ∧ er = 0 ∧ v = st' ∧ (st' = st ∨ (st = 1 ∧ ¬ st' = 1) ∨ (st = 3 ∧ st' = 4))) := by
            have k1 := K1.out
            have k2 := K2.out
            have k3 := K3.out
            have hq : ow' = ow ∧ (st' = st ∨ st' = 3) → ow' = ow ∧ (st' = st ∨ (st = 1 ∧ st' = 3)) := fun h => ⟨h.1, by omega⟩
            by_cases q2 : a = 0
            · exact .inl ⟨q2, hq (k2 (.inl q2))⟩
            · right
              cases y
              · by_cases q3 : er = 0
                · exact .inl ⟨q2, rfl, q3, k3 q2 q3, hq (k2 (.inr (.inl rfl)))⟩
                · exact .inr (.inl ⟨q2, rfl, q3, hq (k2 (.inr (.inl rfl)))⟩)
              · right; right
                by_cases q3 : er = 0
                · exact .inr ⟨q2, rfl, q3, k3 q2 q3, by omega⟩
                · exact .inl ⟨q2, rfl, q3, hq (k2 (.inr (.inr q3)))⟩
          clear K1 K2 K3
          rcases hcase with ⟨rfl, rfl, hc⟩ | ⟨ha, rfl, rfl, rfl, rfl, hc⟩ | ⟨ha, rfl, he, rfl, hc⟩ | ⟨ha, rfl, he, rfl, hc⟩ | ⟨ha, rfl, rfl, rfl, hc⟩
          · rcases hc with rfl | ⟨rfl, rfl⟩
            all_goals
              go_wp2_with (go_at_call 18; refine (owed_is w4 pb mb m' (k + 1) s' _ HY.out.pay How'.out).mono ?_; rintro e w' ⟨rfl, rfl⟩)
              go_roundw
              case rel => exact ⟨k + 1, m', s', by omega, by go_num, HY.out⟩
              case measure => simp [intOf]; omega
          · rcases hc with rfl | ⟨rfl, rfl⟩
            all_goals
              go_wp2_with (go_at_call 18; refine (owed_is w4 pb mb m' (k + 1) s' _ HY.out.pay How'.out).mono ?_; rintro e w' ⟨rfl, rfl⟩)
              go_roundw
              case rel => exact ⟨k + 1, m', s', by omega, by go_num, HY.out⟩
              case measure => simp [intOf]; omega
          · rcases hc with rfl | ⟨rfl, rfl⟩
            all_goals
              go_wp2_with (go_at_call 18; refine (owed_is w4 pb mb m' (k + 1) s' _ HY.out.pay How'.out).mono ?_; rintro e w' ⟨rfl, rfl⟩)
              go_roundw
              case rel => exact ⟨k + 1, m', s', by omega, by go_num, HY.out⟩
              case measure => simp [intOf]; omega
          · rcases hc with rfl | ⟨rfl, rfl⟩
            all_goals
              go_wp2_with (go_at_call 18; refine (owed_is w4 pb mb m' (k + 1) s' _ HY.out.pay How'.out).mono ?_; rintro e w' ⟨rfl, rfl⟩)
              go_roundw
              case rel => exact ⟨k + 1, m', s', by omega, by go_num, HY.out⟩
              case measure => simp [intOf]; omega
          · rcases hc with rfl | ⟨rfl, h9⟩ | ⟨rfl, rfl⟩
            all_goals
              go_wp2_with (go_at_call 18; refine (owed_is w4 pb mb m' (k + 1) s' _ HY.out.pay How'.out).mono ?_; rintro e w' ⟨rfl, rfl⟩)
              go_roundw
              case rel => exact ⟨k + 1, m', s', by omega, by go_num, HY.out⟩
              case measure => simp [intOf]; omega
        · go_wp2_with (go_at_call 16; refine (state_is wr pb mb m k s st HX.out.pay Hst.out).mono ?_; rintro e w' ⟨rfl, rfl⟩)
          go_ret
          exact ⟨rfl, HX.out.low⟩
    · have hlen' : 100 < (ls.length : Int) := by omega
      go_wp2_with fail
      go_ret
      exact ⟨rfl, HR.out.low⟩
  · have hE0 : newE [(1, 5)] 5 [(cardN, 5)] till = 1 := by rw [newE_one 5 till (by omega) (by omega), if_neg ht]
    have HE0 := Lib.hid hE0
    clear hE0
    go_wp2_with fail
    refine (new_no A2 [(1, 5)] c2 1 5 _ [(cardN, 5)] _ 1 till (w2.alloc (.cells #[.string cardN, .int .i64 5] 47)) (w2.alloc (.cells #[.string cardN, .int .i64 5] 47)).heap.size 1 (HE.out.keep (below_self _ _) (by simp)) (hEm.out.keep (Below.refl _ _) (by simp)) (Nat.le_refl _) rfl (by omega) rfl (by omega) HE0 (by omega)).mono ?_
    rintro e w3 ⟨rfl, hb⟩
    have HB := Lib.hid (Below.trans0 (Below.alloc0 HB2.out _) hb)
    clear hb HB2 HE hEm HE0
    go_wp2_with fail
    go_ret
    exact ⟨rfl, HB.out⟩

set_option maxRecDepth 100000 in
theorem payStates_lifted (os : Os) (started : os.Started) (H : Type) (enc : TypeId × Value → H) :
    ReturnsInHanded {} Try.checked os 5 .any (Rows.payStatesSpec.pre6 enc Try.prog Try.f5 [] false) (Rows.payStatesSpec.post enc Try.prog Try.f5 false true false false) := by
  refine law_lifted (C := Try.checked) own started (by kernel_rfl) Try.func5 rfl (fun ds hds => ?_) (tb := 4) (by kernel_rfl) Try.underlying4 laidOut (fun t ht => ?_)
    (ChangeSpec.witness6 (enc := enc) (C := Try.checked) false ⟨#[], #[.int .i64 0, .slice none 0 0], []⟩ 8 (by kernel_rfl) (by kernel_rfl) (by kernel_rfl) (by kernel_rfl)) ?_
  · rw [Try.params5] at hds
    match ds, hds with
    | [_, _], _ => rfl
  · have := List.all_eq_true.1 (show (Try.f5.params.toList.all fun t => Try.prog.readableRec t && decide (t < Try.prog.types.size)) = true by kernel_rfl) t ht
    simp only [Bool.and_eq_true, decide_eq_true_eq] at this
    exact this
  · intro W args g
    rw [Try.params5] at g
    obtain ⟨v0, q0, e0, g0, h0⟩ := g.cons_inv
    obtain ⟨v1, q1, rfl, g1, h1⟩ := h0.cons_inv
    obtain rfl := h1.nil_inv
    obtain rfl : args = #[v0, v1] := by cases args; simp_all
    obtain ⟨till, rfl, x0⟩ := g0.int Try.underlying3 (by kernel_rfl)
    obtain ⟨A, cap, ls, rfl, b1, b2, b3⟩ := g1.slice Try.underlying26 opensOps
    exact states_walk till A ls cap W b3 (by unfold maxLen at b2; omega)

theorem payStates_holds : Rows.PayStatesSaid :=
  OpenClaim.holds_of_wide 5 Try.f5 rfl rfl rfl rfl rfl rfl rfl ⟨rfl, rfl, rfl, rfl, rfl⟩ rfl rfl rfl rfl rfl (by kernel_rfl) Try.func5 (by kernel_rfl)
    (of_decide_eq_true (by kernel_rfl)) (by unfold Func.isWrapper; first | (rw [if_pos (by decide +kernel)]; kernel_rfl) | (rw [if_neg (by decide +kernel)]; exact ⟨rfl, rfl⟩))
    (fun os started H enc _ => payStates_lifted os started H enc)
#print axioms payStates_holds
end Go.Proofs.Ythgiopgapkjleaa
