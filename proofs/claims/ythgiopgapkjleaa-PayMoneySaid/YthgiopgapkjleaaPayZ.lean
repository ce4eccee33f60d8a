/- PayMoney: the total times the number of attempts that were answered by yes is what is owed, and the total once more exactly if the state is done; for every total, time and operations; no condition. -/
import Derived.Test.YthgiopgapkjleaaPayI
import Derived.Test.YthgiopgapkjleaaPayX
namespace Go.Proofs.Ythgiopgapkjleaa
open Go.RowKit Go.ChangeAt
set_option linter.unusedVariables false
set_option linter.unusedSimpArgs false
attribute [local go_sem] ext_cell ext_frozen lt_ext ext_drew

set_option maxRecDepth 100000 in
set_option maxHeartbeats 4000000 in
theorem money_walk (tot till : Int) (A : Option Addr) (ls : List OpS) (cap : Nat) (w : World) (hto : 0 ≤ tot ∧ tot ≤ 65535) (h : Elems tOp w w.heap.size A ls) (hm : ls.length ≤ 9223372036854775807) :
    Calls Try.prog 4 #[.int .u16 tot, .int .i64 till, .slice A ls.length cap] w fun e w' => e = .returned (.bool true) ∧ Below w.heap.size w w' := by
  have HH := Lib.hid h
  obtain ⟨t1, t2⟩ := hto
  clear h
  have hmm := @run_makeMap Try.prog
  go_enter Try.func4, Try.ntmps4
  go_wp2_with fail
  refine (head_any _).mono ?_
  rintro e w1 ⟨rfl, hb⟩
  have HB1 := Lib.hid hb
  clear hb
  go_upto_region 3 with (fail)
  obtain ⟨n, hn⟩ : ∃ n, 1 + tot = n := ⟨_, rfl⟩
  rw [hn]
  have n0 : 1 ≤ n := by omega
  have n9 : n ≤ 65536 := by omega
  clear hn t1 t2
  go_wp2_with fail
  refine (bill_any n _ (by unfold fits; omega)).mono ?_
  rintro e w2 ⟨A2, c2, rfl, hE, hb⟩
  have HE := Lib.hid hE
  have HB2 := Lib.hid (Below.trans0 HB1.out hb)
  clear hE hb HB1
  have hEm := Lib.hid (elems_mean w2 w2.heap.size 47 cardN n rfl (by decide +kernel) (by unfold fits; omega))
  by_cases ht : 0 ≤ till ∧ till ≤ 1000000000
  · have hE0 : newE [(1, n)] n [(cardN, n)] till = 0 := by rw [newE_one n till (by omega) (by omega), if_pos ht]
    have HE0 := Lib.hid hE0
    clear hE0
    go_wp2_with fail
    refine (new_yes A2 [(1, n)] c2 1 n _ [(cardN, n)] _ 1 till (w2.alloc (.cells #[.string cardN, .int .i64 n] 47)) (w2.alloc (.cells #[.string cardN, .int .i64 n] 47)).heap.size (HE.out.keep (below_self _ _) (by simp)) (hEm.out.keep (Below.refl _ _) (by simp)) (Nat.le_refl _) rfl (by omega) rfl (by omega) HE0).mono ?_
    rintro e w3 ⟨pb, mb, rfl, hp, h1, h2, hb⟩
    have n1 : w.heap.size ≤ pb := by have := HB2.out.size; simp at h1; omega
    have n2 : w.heap.size ≤ mb := by have := HB2.out.size; simp at h2; omega
    have HR := Lib.hid (Runs.mk hp (Below.trans0 (Below.alloc0 HB2.out _) hb))
    clear hp h1 h2 hb HB2 HE hEm HE0
    by_cases hlen : ls.length ≤ 100
    · have hlen' : (ls.length : Int) ≤ 100 := by omega
      go_upto_region 7 with (fail)
      refine forget (fun W => Runs w W pb mb 0 0 (startS n till) ∧ MapB litI Try.prog 3 4 W w3.heap.size 0 (fun _ => none) ∧ pb < w3.heap.size ∧ mb < w3.heap.size) ⟨⟨HR.out.pay.below (below_self _ _), Below.alloc0 HR.out.low _⟩, MapB.new litI Try.prog 3 4 w3, HR.out.pay.bk.lt, HR.out.pay.map.lt⟩ ?_
      have n3 : w.heap.size ≤ w3.heap.size := HR.out.low.size
      generalize w3.heap.size = yb at *
      clear HR
      rintro W ⟨hr, hy, d1, d2⟩
      have HR := Lib.hid hr
      have HY0 := Lib.hid hy
      clear hr hy hmm
      go_wp2_with fail
      go_loopw [12] (fun i wr => ∃ (k m my : Nat) (s : PayS) (g : Int → Option Bool), k ≤ ls.length ∧ i = .int .i64 k ∧ my ≤ k ∧ s.total = n ∧ YesIs s my g ∧ Runs w wr pb mb m k s ∧ MapB litI Try.prog 3 4 wr yb my g) (fun i _ => ls.length - (intOf i).toNat)
      case atStart => exact ⟨0, 0, 0, _, _, by omega, rfl, by omega, rfl, YesIs.start n till, HR.out, HY0.out⟩
      case round =>
        obtain ⟨k, m, my, s, g, hk, rfl, hmy, htot, hyes, hr, hyb⟩ := hrel
        have hE := HH.out.keep hr.low (Nat.le_refl _)
        have hbr : w.heap.size ≤ wr.heap.size := hr.low.size
        have HX := Lib.hid (And.intro hr hyb)
        have Htot := Lib.hid htot
        have Hyes := Lib.hid hyes
        clear hr hyb HR HY0 htot hyes
        by_cases hlt : k < ls.length
        · obtain ⟨b, off, a, y, now, rfl, hb, Hk, c0, c1, cn, f0, f1⟩ := pick_op hE hlt
          have bw : b < wr.heap.size := by omega
          clear hE
          obtain ⟨s', v, er, hs'⟩ : ∃ s' v er, stepS s (a, y, now) = (s', v, er) := ⟨_, _, _, rfl⟩
          have hstep := step_money s (a, y, now) my g Hyes.out
          have ht' := (stepS_total s (a, y, now)).1
          rw [hs'] at hstep ht'
          rw [Htot.out] at ht'
          have Hs' := Lib.hid hs'
          have Ht' := Lib.hid ht'
          have Hstep := Lib.hid hstep
          obtain ⟨st', hst'⟩ : ∃ v, s'.state = v := ⟨_, rfl⟩
          obtain ⟨ow', how'⟩ : ∃ v, s'.owed = v := ⟨_, rfl⟩
          have Hst' := Lib.hid hst'
          have How' := Lib.hid how'
          clear hs' hst' how' ht' hstep
          go_wp2_with fail
          refine (step_is wr pb mb m k s a y now s' v er HX.out.1.pay (by omega) f0 Hs').mono ?_
          rintro e w4 ⟨rfl, m', hp, ho⟩
          have hr' := HX.out.1.step hp ho n1 n2
          have HY := Lib.hid (And.intro hr' (HX.out.2.only ho (by omega)))
          have hb4 : b < w4.heap.size := by have := hr'.low.size; omega
          have how0 := hr'.pay.owed
          rw [How'.out] at how0
          obtain ⟨o0, o1⟩ := how0
          have hEl := HH.out.keep hr'.low (Nat.le_refl _)
          obtain ⟨b', off', a', y', n', hA, _, Hk', d0, d1, d2, _⟩ := pick_op hEl hlt
          have hsame := Hk.out.symm.trans Hk'.out
          simp only [Option.some.injEq, Prod.mk.injEq, Addr.mk.injEq, and_true] at hsame hA
          obtain ⟨rfl, rfl⟩ := hA
          obtain ⟨rfl, rfl, rfl⟩ := hsame
          clear hp ho hr' hEl Hk' c0 c1 cn HX
          have hfin : ∀ (wx : World) (my' : Nat) (g' : Int → Option Bool), my' ≤ k + 1 → YesIs s' my' g' → (if st' = 2 then ow' + n else ow') = (my' : Int) * n ∧ 0 ≤ (my' : Int) * n ∧ (my' : Int) * n ≤ 6619136 := fun wx my' g' hm9 hy9 => by
            have h9 := hy9.money
            unfold MoneyI at h9
            rw [How'.out, Hst'.out, Ht'.out] at h9
            refine ⟨?_, Int.mul_nonneg (by omega) (by omega), ?_⟩
            · rw [← h9]; split <;> omega
            · have := Int.mul_le_mul (show (my' : Int) ≤ 101 by omega) n9 (by omega) (by omega)
              omega
          have Hfin := Lib.hid hfin
          clear hfin
          by_cases hq : ¬ a = 0 ∧ y = true ∧ er = 0
          · have hy' := Hstep.out.1 hq
            obtain ⟨q1, rfl, rfl⟩ := hq
            have Hy' := Lib.hid hy'
            clear hy' Hstep
            have hmy' : (if (g a).isSome then my else my + 1) ≤ k + 1 := by split <;> omega
            go_upto_region 13 with (at_mapUpdate; refine list_store rfl _ _ _ _ rfl 3 4 keyedI Try.underlying48 Try.underlying4 litI_inj (by unfold maxLen; omega) rfl HY.out.2 _ a rfl (keyI f0) _ rfl ?_; intro w5 hm5 ho5; have HZ := Lib.hid (And.intro hm5 ho5); clear hm5 ho5)
            obtain ⟨my', hmy2⟩ : ∃ v, (if (g a).isSome then my else my + 1) = v := ⟨_, rfl⟩
            have hmap := HZ.out.1
            have hyy := Hy'.out
            rw [hmy2] at hmy'
            simp only [hmy2] at hmap hyy
            obtain ⟨r1, r2, r3⟩ := Hfin.out w5 my' _ hmy' hyy
            have HW := Lib.hid (And.intro (HY.out.1.pay.only HZ.out.2 (fun e => by omega) (fun e => by omega)) (And.intro hmap (And.intro hyy (HY.out.1.low.trans (HZ.out.2.to_below (B := w.heap.size) (fun g hg => by omega) HY.out.1.low.size)))))
            have hlen9 := hmap.len Try.underlying48 3
            have Hr1 := Lib.hid r1
            clear hmap hyy Hfin HY HZ Hy' r1
            by_cases hst2 : st' = 2
            · have hs3 : ow' + n = (my' : Int) * n := by rw [← Hr1.out, if_pos hst2]
              subst hst2
              go_wp2_with (first
                | (go_at_call 18; refine (owed_is w5 pb mb _ _ s' _ HW.out.1 How'.out).mono ?_; rintro e w' ⟨rfl, rfl⟩)
                | (go_at_call 16; refine (state_is w5 pb mb _ _ s' _ HW.out.1 Hst'.out).mono ?_; rintro e w' ⟨rfl, rfl⟩))
              go_roundw
              case rel => exact ⟨k + 1, m', my', s', _, by omega, by go_num, hmy', Ht'.out, HW.out.2.2.1, ⟨HW.out.1, HW.out.2.2.2⟩, HW.out.2.1⟩
              case measure => simp [intOf]; omega
            · have hs3 : ow' = (my' : Int) * n := by rw [← Hr1.out, if_neg hst2]
              subst hs3
              go_wp2_with (first
                | (go_at_call 18; refine (owed_is w5 pb mb _ _ s' _ HW.out.1 How'.out).mono ?_; rintro e w' ⟨rfl, rfl⟩)
                | (go_at_call 16; refine (state_is w5 pb mb _ _ s' _ HW.out.1 Hst'.out).mono ?_; rintro e w' ⟨rfl, rfl⟩))
              go_roundw
              case rel => exact ⟨k + 1, m', my', s', _, by omega, by go_num, hmy', Ht'.out, HW.out.2.2.1, ⟨HW.out.1, HW.out.2.2.2⟩, HW.out.2.1⟩
              case measure => simp [intOf]; omega
          · have hy' := Hstep.out.2 hq
            obtain ⟨r1, r2, r3⟩ := Hfin.out w4 my _ (by omega) hy'
            have HW := Lib.hid (And.intro HY.out.1.pay (And.intro HY.out.2 (And.intro hy' HY.out.1.low)))
            have hlen9 := HY.out.2.len Try.underlying48 3
            have Hr1 := Lib.hid r1
            have hmy' : my ≤ k + 1 := by omega
            have hq9 : a = 0 ∨ (¬ a = 0 ∧ ¬ er = 0) ∨ (¬ a = 0 ∧ er = 0 ∧ y = false) := by
              by_cases q1 : a = 0
              · exact .inl q1
              · by_cases q2 : er = 0
                · refine .inr (.inr ⟨q1, q2, ?_⟩)
                  cases y
                  · rfl
                  · exact absurd ⟨q1, rfl, q2⟩ hq
                · exact .inr (.inl ⟨q1, q2⟩)
            clear Hfin HY hy' r1 Hstep hq
            rcases hq9 with rfl | ⟨q1, q2⟩ | ⟨q1, rfl, rfl⟩
            · by_cases hst2 : st' = 2
              · have hs3 : ow' + n = (my : Int) * n := by rw [← Hr1.out, if_pos hst2]
                subst hst2
                go_wp2_with (first
                  | (go_at_call 18; refine (owed_is w4 pb mb _ _ s' _ HW.out.1 How'.out).mono ?_; rintro e w' ⟨rfl, rfl⟩)
                  | (go_at_call 16; refine (state_is w4 pb mb _ _ s' _ HW.out.1 Hst'.out).mono ?_; rintro e w' ⟨rfl, rfl⟩))
                go_roundw
                case rel => exact ⟨k + 1, m', my, s', _, by omega, by go_num, hmy', Ht'.out, HW.out.2.2.1, ⟨HW.out.1, HW.out.2.2.2⟩, HW.out.2.1⟩
                case measure => simp [intOf]; omega
              · have hs3 : ow' = (my : Int) * n := by rw [← Hr1.out, if_neg hst2]
                subst hs3
                go_wp2_with (first
                  | (go_at_call 18; refine (owed_is w4 pb mb _ _ s' _ HW.out.1 How'.out).mono ?_; rintro e w' ⟨rfl, rfl⟩)
                  | (go_at_call 16; refine (state_is w4 pb mb _ _ s' _ HW.out.1 Hst'.out).mono ?_; rintro e w' ⟨rfl, rfl⟩))
                go_roundw
                case rel => exact ⟨k + 1, m', my, s', _, by omega, by go_num, hmy', Ht'.out, HW.out.2.2.1, ⟨HW.out.1, HW.out.2.2.2⟩, HW.out.2.1⟩
                case measure => simp [intOf]; omega
            · by_cases hst2 : st' = 2
              · have hs3 : ow' + n = (my : Int) * n := by rw [← Hr1.out, if_pos hst2]
                subst hst2
                go_wp2_with (first
                  | (go_at_call 18; refine (owed_is w4 pb mb _ _ s' _ HW.out.1 How'.out).mono ?_; rintro e w' ⟨rfl, rfl⟩)
                  | (go_at_call 16; refine (state_is w4 pb mb _ _ s' _ HW.out.1 Hst'.out).mono ?_; rintro e w' ⟨rfl, rfl⟩))
                go_roundw
                case rel => exact ⟨k + 1, m', my, s', _, by omega, by go_num, hmy', Ht'.out, HW.out.2.2.1, ⟨HW.out.1, HW.out.2.2.2⟩, HW.out.2.1⟩
                case measure => simp [intOf]; omega
              · have hs3 : ow' = (my : Int) * n := by rw [← Hr1.out, if_neg hst2]
                subst hs3
                go_wp2_with (first
                  | (go_at_call 18; refine (owed_is w4 pb mb _ _ s' _ HW.out.1 How'.out).mono ?_; rintro e w' ⟨rfl, rfl⟩)
                  | (go_at_call 16; refine (state_is w4 pb mb _ _ s' _ HW.out.1 Hst'.out).mono ?_; rintro e w' ⟨rfl, rfl⟩))
                go_roundw
                case rel => exact ⟨k + 1, m', my, s', _, by omega, by go_num, hmy', Ht'.out, HW.out.2.2.1, ⟨HW.out.1, HW.out.2.2.2⟩, HW.out.2.1⟩
                case measure => simp [intOf]; omega
            · by_cases hst2 : st' = 2
              · have hs3 : ow' + n = (my : Int) * n := by rw [← Hr1.out, if_pos hst2]
                subst hst2
                go_wp2_with (first
                  | (go_at_call 18; refine (owed_is w4 pb mb _ _ s' _ HW.out.1 How'.out).mono ?_; rintro e w' ⟨rfl, rfl⟩)
                  | (go_at_call 16; refine (state_is w4 pb mb _ _ s' _ HW.out.1 Hst'.out).mono ?_; rintro e w' ⟨rfl, rfl⟩))
                go_roundw
                case rel => exact ⟨k + 1, m', my, s', _, by omega, by go_num, hmy', Ht'.out, HW.out.2.2.1, ⟨HW.out.1, HW.out.2.2.2⟩, HW.out.2.1⟩
                case measure => simp [intOf]; omega
              · have hs3 : ow' = (my : Int) * n := by rw [← Hr1.out, if_neg hst2]
                subst hs3
                go_wp2_with (first
                  | (go_at_call 18; refine (owed_is w4 pb mb _ _ s' _ HW.out.1 How'.out).mono ?_; rintro e w' ⟨rfl, rfl⟩)
                  | (go_at_call 16; refine (state_is w4 pb mb _ _ s' _ HW.out.1 Hst'.out).mono ?_; rintro e w' ⟨rfl, rfl⟩))
                go_roundw
                case rel => exact ⟨k + 1, m', my, s', _, by omega, by go_num, hmy', Ht'.out, HW.out.2.2.1, ⟨HW.out.1, HW.out.2.2.2⟩, HW.out.2.1⟩
                case measure => simp [intOf]; omega
        · go_wp2_with fail
          go_ret
          exact ⟨rfl, HX.out.1.low⟩
    · have hlen' : 100 < (ls.length : Int) := by omega
      go_wp2_with fail
      go_ret
      exact ⟨rfl, HR.out.low⟩
  · have hE0 : newE [(1, n)] n [(cardN, n)] till = 1 := by rw [newE_one n till (by omega) (by omega), if_neg ht]
    have HE0 := Lib.hid hE0
    clear hE0
    go_wp2_with fail
    refine (new_no A2 [(1, n)] c2 1 n _ [(cardN, n)] _ 1 till (w2.alloc (.cells #[.string cardN, .int .i64 n] 47)) (w2.alloc (.cells #[.string cardN, .int .i64 n] 47)).heap.size 1 (HE.out.keep (below_self _ _) (by simp)) (hEm.out.keep (Below.refl _ _) (by simp)) (Nat.le_refl _) rfl (by omega) rfl (by omega) HE0 (by omega)).mono ?_
    rintro e w3 ⟨rfl, hb⟩
    have HB := Lib.hid (Below.trans0 (Below.alloc0 HB2.out _) hb)
    clear hb HB2 HE hEm HE0
    rcases (show till < 0 ∨ (0 ≤ till ∧ 1000000000 < till) by omega) with h9 | ⟨h9, h8⟩
    all_goals
      go_wp2_with fail
      go_ret
      exact ⟨rfl, HB.out⟩

set_option maxRecDepth 100000 in
theorem payMoney_lifted (os : Os) (started : os.Started) (H : Type) (enc : TypeId × Value → H) :
    ReturnsInHanded {} Try.checked os 4 .any (Rows.payMoneySpec.pre6 enc Try.prog Try.f4 [] false) (Rows.payMoneySpec.post enc Try.prog Try.f4 false true false false) := by
  refine law_lifted (C := Try.checked) own started (by kernel_rfl) Try.func4 rfl (fun ds hds => ?_) (tb := 4) (by kernel_rfl) Try.underlying4 laidOut (fun t ht => ?_)
    (ChangeSpec.witness6 (enc := enc) (C := Try.checked) false ⟨#[], #[.int .u16 0, .int .i64 0, .slice none 0 0], []⟩ 8 (by kernel_rfl) (by kernel_rfl) (by kernel_rfl) (by kernel_rfl)) ?_
  · rw [Try.params4] at hds
    match ds, hds with
    | [_, _, _], _ => rfl
  · have := List.all_eq_true.1 (show (Try.f4.params.toList.all fun t => Try.prog.readableRec t && decide (t < Try.prog.types.size)) = true by kernel_rfl) t ht
    simp only [Bool.and_eq_true, decide_eq_true_eq] at this
    exact this
  · intro W args g
    rw [Try.params4] at g
    obtain ⟨v0, q0, e0, g0, h0⟩ := g.cons_inv
    obtain ⟨v1, q1, rfl, g1, h1⟩ := h0.cons_inv
    obtain ⟨v2, q2, rfl, g2, h2⟩ := h1.cons_inv
    obtain rfl := h2.nil_inv
    obtain rfl : args = #[v0, v1, v2] := by cases args; simp_all
    obtain ⟨tot, rfl, x9⟩ := g0.u16 Try.underlying44 (by kernel_rfl)
    obtain ⟨till, rfl, x0⟩ := g1.int Try.underlying3 (by kernel_rfl)
    obtain ⟨A, cap, ls, rfl, b1, b2, b3⟩ := g2.slice Try.underlying26 opensOps
    exact money_walk tot till A ls cap W x9 b3 (by unfold maxLen at b2; omega)

theorem payMoney_holds : Rows.PayMoneySaid :=
  OpenClaim.holds_of_wide 4 Try.f4 rfl rfl rfl rfl rfl rfl rfl ⟨rfl, rfl, rfl, rfl, rfl⟩ rfl rfl rfl rfl rfl (by kernel_rfl) Try.func4 (by kernel_rfl)
    (of_decide_eq_true (by kernel_rfl)) (by unfold Func.isWrapper; first | (rw [if_pos (by decide +kernel)]; kernel_rfl) | (rw [if_neg (by decide +kernel)]; exact ⟨rfl, rfl⟩))
    (fun os started H enc _ => payMoney_lifted os started H enc)
#print axioms payMoney_holds
end Go.Proofs.Ythgiopgapkjleaa
