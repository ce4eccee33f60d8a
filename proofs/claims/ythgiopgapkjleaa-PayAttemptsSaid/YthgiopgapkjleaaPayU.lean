/- PayAttempts: attempts are numbered one after the other, at most 100, as long as the state is open; answers to others are refused; for every time and operations; no condition. -/
import Derived.Test.YthgiopgapkjleaaPayI
namespace Go.Proofs.Ythgiopgapkjleaa
open Go.RowKit Go.ChangeAt
set_option linter.unusedVariables false
set_option linter.unusedSimpArgs false
attribute [local go_sem] ext_cell ext_frozen lt_ext ext_drew

set_option maxRecDepth 100000 in
set_option maxHeartbeats 4000000 in
theorem attempts_walk (till : Int) (A : Option Addr) (ls : List OpS) (cap : Nat) (w : World) (h : Elems tOp w w.heap.size A ls) (hm : ls.length ≤ 9223372036854775807) :
    Calls Try.prog 8 #[.int .i64 till, .slice A ls.length cap] w fun e w' => e = .returned (.bool true) ∧ Below w.heap.size w w' := by
  have HH := Lib.hid h
  clear h
  go_enter Try.func8, Try.ntmps8
  go_wp2_with fail
  refine (head_any _).mono ?_
  rintro e w1 ⟨rfl, hb⟩
  have HB1 := Lib.hid hb
  clear hb
  go_wp2_with fail
  refine (bill_any 5 _ (by unfold fits; omega)).mono ?_
  rintro e w2 ⟨A2, c2, rfl, hE, hb⟩
  have HE := Lib.hid hE
  have HB2 := Lib.hid (Below.trans0 HB1.out hb)
  clear hE hb HB1
  have hEm := Lib.hid (elems_mean w2 w2.heap.size 47 cardN 5 rfl (by decide +kernel) (by unfold fits; omega))
  by_cases ht : 0 ≤ till ∧ till ≤ 1000000000
  · have hE0 : newE [(1, 5)] 5 [(cardN, 5)] till = 0 := by rw [newE_one 5 till (by omega) (by omega), if_pos ht]
    have HE0 := Lib.hid hE0
    clear hE0
    go_wp2_with fail
    refine (new_yes A2 [(1, 5)] c2 1 5 _ [(cardN, 5)] _ 1 till (w2.alloc (.cells #[.string cardN, .int .i64 5] 47)) (w2.alloc (.cells #[.string cardN, .int .i64 5] 47)).heap.size (HE.out.keep (below_self _ _) (by simp)) (hEm.out.keep (Below.refl _ _) (by simp)) (Nat.le_refl _) rfl (by omega) rfl (by omega) HE0).mono ?_
    rintro e w3 ⟨pb, mb, rfl, hp, h1, h2, hb⟩
    have n1 : w.heap.size ≤ pb := by have := HB2.out.size; simp at h1; omega
    have n2 : w.heap.size ≤ mb := by have := HB2.out.size; simp at h2; omega
    have HR := Lib.hid (Runs.mk hp (Below.trans0 (Below.alloc0 HB2.out _) hb))
    clear hp h1 h2 hb HB2 HE hEm HE0
    by_cases hlen : ls.length ≤ 150
    · have hlen' : (ls.length : Int) ≤ 150 := by omega
      go_wp2_with fail
      go_loopw [8, 9] (fun q i wr => ∃ (k m : Nat) (s : PayS), k ≤ ls.length ∧ i = .int .i64 k ∧ q = .int .i64 s.asked ∧ Runs w wr pb mb m k s) (fun _ i _ => ls.length - (intOf i).toNat)
      case atStart => exact ⟨0, 0, _, by omega, rfl, rfl, HR.out⟩
      case round =>
        obtain ⟨k, m, s, hk, rfl, rfl, hr⟩ := hrel
        have hE := HH.out.keep hr.low (Nat.le_refl _)
        have hok := hr.pay.ok
        have q0 := hok.asked0
        have q1 := hok.asked1
        have hbr : w.heap.size ≤ wr.heap.size := hr.low.size
        obtain ⟨q, hq⟩ : ∃ v, s.asked = v := ⟨_, rfl⟩
        rw [hq] at q0 q1
        rw [hq]
        have Hq := Lib.hid hq
        have Hok := Lib.hid hok
        have HX := Lib.hid hr
        clear hr hok hq HR
        by_cases hlt : k < ls.length
        · obtain ⟨b, off, a, y, n, rfl, hb, Hk, c0, c1, cn, f0, f1⟩ := pick_op hE hlt
          have bw : b < wr.heap.size := by omega
          clear hE
          obtain ⟨s', v, er, hs'⟩ : ∃ s' v er, stepS s (a, y, n) = (s', v, er) := ⟨_, _, _, rfl⟩
          have hstep := step_attempts s (a, y, n) Hok.out
          rw [hs'] at hstep
          simp only [Hq.out] at hstep
          have Hs' := Lib.hid hs'
          obtain ⟨q', hq'⟩ : ∃ v, s'.asked = v := ⟨_, rfl⟩
          obtain ⟨st', hst'⟩ : ∃ v, s'.state = v := ⟨_, rfl⟩
          simp only [hq', hst'] at hstep
          have Hq' := Lib.hid hq'
          have Hst' := Lib.hid hst'
          have hcase : (a = 0 ∧ er = 0 ∧ v = q + 1 ∧ q' = q + 1 ∧ st' = 1 ∧ q + 1 ≤ 100) ∨ (a = 0 ∧ er = 3 ∧ v = 0 ∧ q' = q ∧ q = 100) ∨ (a = 0 ∧ ¬ er = 0 ∧ ¬ er = 3 ∧ v = 0 ∧ q' = q) ∨
              (a < 0 ∧ q' = q ∧ (er = 11 ∨ er = 1)) ∨ (0 ≤ a ∧ ¬ a = 0 ∧ q < a ∧ q' = q ∧ (er = 11 ∨ er = 1)) ∨ (0 ≤ a ∧ ¬ a = 0 ∧ a ≤ q ∧ q' = q) := by
            obtain ⟨k1, k2⟩ := hstep
            by_cases h0 : a = 0
            · obtain ⟨k3, k4, k5⟩ := k1 h0
              by_cases h1 : er = 0
              · have := k3 h1; exact .inl ⟨h0, h1, this.1, this.2.1, this.2.2.1, this.2.2.2⟩
              · have := k5 h1
                by_cases h3 : er = 3
                · exact .inr (.inl ⟨h0, h3, this.1, this.2, k4 h3⟩)
                · exact .inr (.inr (.inl ⟨h0, h1, h3, this.1, this.2⟩))
            · obtain ⟨k3, k4⟩ := k2 h0
              right; right; right
              by_cases h1 : a < 0
              · exact .inl ⟨h1, k3, k4 (.inl h1)⟩
              · by_cases h2 : q < a
                · exact .inr (.inl ⟨by omega, h0, h2, k3, k4 (.inr h2)⟩)
                · exact .inr (.inr ⟨by omega, h0, by omega, k3⟩)
          have Hcase := Lib.hid hcase
          clear hs' hq' hst' hstep hcase
          go_wp2_with fail
          refine (step_is wr pb mb m k s a y n s' v er HX.out.pay (by omega) f0 Hs').mono ?_
          rintro e w4 ⟨rfl, m', hp, ho⟩
          have hr' := HX.out.step hp ho n1 n2
          have HY := Lib.hid hr'
          have hb4 : b < w4.heap.size := by have := hr'.low.size; omega
          have hEl := HH.out.keep hr'.low (Nat.le_refl _)
          obtain ⟨b', off', a', y', n', hA, _, Hk', d0, d1, d2, _⟩ := pick_op hEl hlt
          have hsame := Hk.out.symm.trans Hk'.out
          simp only [Option.some.injEq, Prod.mk.injEq, Addr.mk.injEq, and_true] at hsame hA
          obtain ⟨rfl, rfl⟩ := hA
          obtain ⟨rfl, rfl, rfl⟩ := hsame
          clear hp ho hr' hEl Hk' c0 c1 cn
          rcases Hcase.out with ⟨rfl, rfl, rfl, rfl, rfl, h5⟩ | ⟨rfl, rfl, rfl, rfl, rfl⟩ | ⟨rfl, h1, h3, rfl, rfl⟩ | ⟨h0, rfl, rfl | rfl⟩ | ⟨h0, h0', h2, rfl, rfl | rfl⟩ | ⟨h0, h0', h2, rfl⟩
          all_goals
            clear Hcase
            go_wp2_with (go_at_call 16; refine (state_is w4 pb mb m' (k + 1) s' _ HY.out.pay Hst'.out).mono ?_; rintro e w' ⟨rfl, rfl⟩)
            go_roundw
            case rel => exact ⟨k + 1, m', s', by omega, by go_num, by rw [Hq'.out], HY.out⟩
            case measure => simp [intOf]; omega
        · go_wp2_with fail
          go_ret
          exact ⟨rfl, HX.out.low⟩
    · have hlen' : 150 < (ls.length : Int) := by omega
      go_wp2_with fail
      go_ret
      exact ⟨rfl, HR.out.low⟩
  · have hE0 : newE [(1, 5)] 5 [(cardN, 5)] till = 1 := by rw [newE_one 5 till (by omega) (by omega), if_neg ht]
    have HE0 := Lib.hid hE0
    clear hE0
    go_wp2_with fail
    refine (new_no A2 [(1, 5)] c2 1 5 _ [(cardN, 5)] _ 1 till (w2.alloc (.cells #[.string cardN, .int .i64 5] 47)) (w2.alloc (.cells #[.string cardN, .int .i64 5] 47)).heap.size 1 (HE.out.keep (below_self _ _) (by simp)) (hEm.out.keep (Below.refl _ _) (by simp)) (Nat.le_refl _) rfl (by omega) rfl (by omega) HE0 (by omega)).mono ?_
    rintro e w3 ⟨rfl, hb⟩
    have HB := Lib.hid (Below.trans0 (Below.alloc0 HB2.out _) hb)
    clear hb HB2 HE hEm HE0
    go_wp2_with fail
    go_ret
    exact ⟨rfl, HB.out⟩

set_option maxRecDepth 100000 in
theorem payAttempts_lifted (os : Os) (started : os.Started) (H : Type) (enc : TypeId × Value → H) :
    ReturnsInHanded {} Try.checked os 8 .any (Rows.payAttemptsSpec.pre6 enc Try.prog Try.f8 [] false) (Rows.payAttemptsSpec.post enc Try.prog Try.f8 false true false false) := by
  refine law_lifted (C := Try.checked) own started (by kernel_rfl) Try.func8 rfl (fun ds hds => ?_) (tb := 4) (by kernel_rfl) Try.underlying4 laidOut (fun t ht => ?_)
    (ChangeSpec.witness6 (enc := enc) (C := Try.checked) false ⟨#[], #[.int .i64 0, .slice none 0 0], []⟩ 8 (by kernel_rfl) (by kernel_rfl) (by kernel_rfl) (by kernel_rfl)) ?_
  · rw [Try.params8] at hds
    match ds, hds with
    | [_, _], _ => rfl
  · have := List.all_eq_true.1 (show (Try.f8.params.toList.all fun t => Try.prog.readableRec t && decide (t < Try.prog.types.size)) = true by kernel_rfl) t ht
    simp only [Bool.and_eq_true, decide_eq_true_eq] at this
    exact this
  · intro W args g
    rw [Try.params8] at g
    obtain ⟨v0, q0, e0, g0, h0⟩ := g.cons_inv
    obtain ⟨v1, q1, rfl, g1, h1⟩ := h0.cons_inv
    obtain rfl := h1.nil_inv
    obtain rfl : args = #[v0, v1] := by cases args; simp_all
    obtain ⟨till, rfl, x0⟩ := g0.int Try.underlying3 (by kernel_rfl)
    obtain ⟨A, cap, ls, rfl, b1, b2, b3⟩ := g1.slice Try.underlying26 opensOps
    exact attempts_walk till A ls cap W b3 (by unfold maxLen at b2; omega)

theorem payAttempts_holds : Rows.PayAttemptsSaid :=
  OpenClaim.holds_of_wide 8 Try.f8 rfl rfl rfl rfl rfl rfl rfl ⟨rfl, rfl, rfl, rfl, rfl⟩ rfl rfl rfl rfl rfl (by kernel_rfl) Try.func8 (by kernel_rfl)
    (of_decide_eq_true (by kernel_rfl)) (by unfold Func.isWrapper; first | (rw [if_pos (by decide +kernel)]; kernel_rfl) | (rw [if_neg (by decide +kernel)]; exact ⟨rfl, rfl⟩))
    (fun os started H enc _ => payAttempts_lifted os started H enc)
#print axioms payAttempts_holds
end Go.Proofs.Ythgiopgapkjleaa
