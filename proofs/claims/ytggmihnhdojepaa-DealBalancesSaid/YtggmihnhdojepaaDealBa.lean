/- DealBalances: the postings of each booking add up to 0, none is 0, they are at most 15, about different accounts; beside an error there are none; for every bill, number, decision, name and means; no condition. -/
import Derived.Test.YtggmihnhdojepaaDealY
import Derived.Test.YtggmihnhdojepaaDealBp
import Derived.Deep.DeepCutAuto
namespace Go.Proofs.Ytggmihnhdojepaa
open Go.RowKit Go.ChangeAt
set_option linter.unusedVariables false
set_option linter.unusedSimpArgs false
attribute [local go_sem] ext_cell ext_frozen lt_ext ext_drew
set_option maxRecDepth 100000 in
set_option maxHeartbeats 8000000 in
theorem balances_walk (m : Int) (A : Option Addr) (ls : List Ln) (cap : Nat) (total : Int) (ok tg si : Bool) (lim price fn fd tn td cn cd sn sd rn rd y : Int) (pn : ByteArray) (A2 : Option Addr) (ms : List Mn) (cap2 : Nat) (w : World) (h : Elems tLine w w.heap.size A ls) (h2 : Elems tMean w w.heap.size A2 ms) (hm : ls.length ≤ 9223372036854775807) (hm2 : ms.length ≤ 9223372036854775807) (ht : fits total) (hpn : pn.size ≤ maxLen) (hfm : fits m) :
    Calls Try.prog 4 #[.agg #[.slice A ls.length cap, .int .i64 total], .int .i64 m, .agg #[.bool ok, .bool tg, .bool si, .int .i64 lim, .int .i64 price, .int .i64 fn, .int .i64 fd, .int .i64 tn, .int .i64 td, .int .i64 cn, .int .i64 cd, .int .i64 sn, .int .i64 sd, .int .i64 rn, .int .i64 rd, .int .i64 y], .string pn, .slice A2 ms.length cap2] w fun e w' => e = .returned (.bool true) ∧ Below w.heap.size w w' := by
  have HH := Lib.hid (And.intro h (And.intro h2 (And.intro ht (And.intro hpn hfm))))
  have hps : pn.size ≤ 9223372036854775807 := by unfold maxLen at hpn; omega
  clear h h2 ht hpn hfm
  go_enter Try.func4, Try.ntmps4
  go_wp2_with fail
  refine (head_any _).mono ?_
  rintro e W ⟨rfl, hb⟩
  have hw : Below w.heap.size w W := Below.trans0 (Below.alloc0 (below_self _ _) _) hb
  have b0 : Bk W w.heap.size #[.slice A ls.length cap, .int .i64 total] 24 := ((Bk.new w _ _).alloc _).below hb
  have b1 : Bk W (w.heap.size + 1) #[.bool ok, .bool tg, .bool si, .int .i64 lim, .int .i64 price, .int .i64 fn, .int .i64 fd, .int .i64 tn, .int .i64 td, .int .i64 cn, .int .i64 cd, .int .i64 sn, .int .i64 sd, .int .i64 rn, .int .i64 rd, .int .i64 y] 28 := (bk_new_at _ _ _ _ (by simp)).below hb
  have hws := hw.size
  have c0 := b0.cell
  have l0 := b0.lt
  have c1 := b1.cell
  have l1 := b1.lt
  have HE := Lib.hid (And.intro (HH.out.1.keep hw (Nat.le_refl _)) (HH.out.2.1.keep hw (Nat.le_refl _)))
  obtain ⟨q, hq⟩ : ∃ v, fewD ls ms = v := ⟨_, rfl⟩
  have HF := Lib.hid (few_in (A := A) (total := total) (cap := cap) (cap2 := cap2) HE.out.2 hws rfl rfl hm hm2 q hq)
  have HQ := Lib.hid hq
  have HW := Lib.hid (And.intro hw (And.intro b0 b1))
  clear hw b0 b1 hb hq
  cases q
  · as_aux_lemma =>
    go_wp2_with (go_at_call 11; refine (HF.out _ ?bel).mono ?_; (case bel => (repeat (first | with_reducible exact Below.refl _ _ | with_reducible assumption | with_reducible refine Below.alloc0 ?_ _ | with_reducible refine Below.ext0 ?_ _ | with_reducible refine Below.drew ?_ | with_reducible refine below_drewN ?_ _ | (with_reducible refine Below.setCell (hp := ?hp) ?_ _; case hp => (first | (simp; done) | (simp; omega)))))); rintro e w' ⟨rfl, hb⟩; (first | (obtain ⟨u, rfl⟩ := ext_more hb; clear hb) | (obtain ⟨u, rfl⟩ := ext_more_alloc hb; clear hb) | (obtain ⟨u, rfl⟩ := ext_of hb; clear hb)))
    go_ret
    exact ⟨rfl, by have hw := HW.out.1; (repeat (first | with_reducible exact Below.refl _ _ | with_reducible assumption | with_reducible refine Below.alloc0 ?_ _ | with_reducible refine Below.ext0 ?_ _ | with_reducible refine Below.drew ?_ | with_reducible refine below_drewN ?_ _ | (with_reducible refine Below.setCell (hp := ?hp) ?_ _; case hp => (first | (simp; done) | (simp; omega)))))⟩
  · obtain ⟨f1, f2⟩ := fewD_out HQ.out
    by_cases hp : 100 < (pn.size : Int)
    · as_aux_lemma =>
      go_wp2_with (go_at_call 11; refine (HF.out _ ?bel).mono ?_; (case bel => (repeat (first | with_reducible exact Below.refl _ _ | with_reducible assumption | with_reducible refine Below.alloc0 ?_ _ | with_reducible refine Below.ext0 ?_ _ | with_reducible refine Below.drew ?_ | with_reducible refine below_drewN ?_ _ | (with_reducible refine Below.setCell (hp := ?hp) ?_ _; case hp => (first | (simp; done) | (simp; omega)))))); rintro e w' ⟨rfl, hb⟩; (first | (obtain ⟨u, rfl⟩ := ext_more hb; clear hb) | (obtain ⟨u, rfl⟩ := ext_more_alloc hb; clear hb) | (obtain ⟨u, rfl⟩ := ext_of hb; clear hb)))
      go_ret
      exact ⟨rfl, by have hw := HW.out.1; (repeat (first | with_reducible exact Below.refl _ _ | with_reducible assumption | with_reducible refine Below.alloc0 ?_ _ | with_reducible refine Below.ext0 ?_ _ | with_reducible refine Below.drew ?_ | with_reducible refine below_drewN ?_ _ | (with_reducible refine Below.setCell (hp := ?hp) ?_ _; case hp => (first | (simp; done) | (simp; omega)))))⟩
    · have hp' : (pn.size : Int) ≤ 100 := by omega
      clear hp
      obtain ⟨L4, hL4⟩ : ∃ v, saleL ls total pn ms = v := ⟨_, rfl⟩
      obtain ⟨r4, hr4⟩ : ∃ v, saleE ls total pn ms = v := ⟨_, rfl⟩
      obtain ⟨L6, hL6⟩ : ∃ v, resaleL m ls total cn cd sn sd pn ms = v := ⟨_, rfl⟩
      obtain ⟨r6, hr6⟩ : ∃ v, resaleE m ls total cn cd sn sd pn ms = v := ⟨_, rfl⟩
      obtain ⟨L8, hL8⟩ : ∃ v, refundL ls total m ms = v := ⟨_, rfl⟩
      obtain ⟨r8, hr8⟩ : ∃ v, refundE ls total m ms = v := ⟨_, rfl⟩
      have HS4 := Lib.hid (sale_in (cap := cap) (cap2 := cap2) HE.out.1 HE.out.2 hws rfl f1 HH.out.2.2.1 rfl hm2 HH.out.2.2.2.1 L4 r4 hL4 hr4)
      have HS6 := Lib.hid (resale_in (cap := cap) (cap2 := cap2) ok tg si lim price fn fd tn td cn cd sn sd rn rd y m HE.out.1 HE.out.2 hws rfl f1 HH.out.2.2.1 rfl hm2 HH.out.2.2.2.1 HH.out.2.2.2.2 L6 r6 hL6 hr6)
      have HS8 := Lib.hid (refund_in (cap := cap) (cap2 := cap2) m HE.out.1 HE.out.2 hws rfl f1 HH.out.2.2.1 rfl hm2 HH.out.2.2.2.2 L8 r8 hL8 hr8)
      have HL := Lib.hid (And.intro hL4 (And.intro hr4 (And.intro hL6 (And.intro hr6 (And.intro hL8 hr8)))))
      clear hL4 hr4 hL6 hr6 hL8 hr8
      have y4 : (r4 = 0 ∨ ((r4 != 0) = true ∧ L4 = [])) := err_none (fun h => by rw [← HL.out.1, saleL, if_neg (by rw [HL.out.2.1]; exact h)])
      have y6 : (r6 = 0 ∨ ((r6 != 0) = true ∧ L6 = [])) := err_none (fun h => by rw [← HL.out.2.2.1, resaleL, if_neg (by rw [HL.out.2.2.2.1]; exact h)])
      have y8 : (r8 = 0 ∨ ((r8 != 0) = true ∧ L8 = [])) := err_none (fun h => by rw [← HL.out.2.2.2.2.1, refundL, if_neg (by rw [HL.out.2.2.2.2.2]; exact h)])
      have HYS := Lib.hid (And.intro y4 (And.intro y6 y8))
      clear y4 y6 y8
      go_upto_region 5 with (first
        | (go_at_call 11; refine (HF.out _ ?bel).mono ?_; (case bel => (repeat (first | with_reducible exact Below.refl _ _ | with_reducible assumption | with_reducible refine Below.alloc0 ?_ _ | with_reducible refine Below.ext0 ?_ _ | with_reducible refine Below.drew ?_ | with_reducible refine below_drewN ?_ _ | (with_reducible refine Below.setCell (hp := ?hp) ?_ _; case hp => (first | (simp; done) | (simp; omega)))))); rintro e w' ⟨rfl, hb⟩; (first | (obtain ⟨u, rfl⟩ := ext_more hb; clear hb) | (obtain ⟨u, rfl⟩ := ext_more_alloc hb; clear hb) | (obtain ⟨u, rfl⟩ := ext_of hb; clear hb)))
        | (go_at_call 12; refine (HS4.out _ ?bel).mono ?_; (case bel => (repeat (first | with_reducible exact Below.refl _ _ | with_reducible assumption | with_reducible refine Below.alloc0 ?_ _ | with_reducible refine Below.ext0 ?_ _ | with_reducible refine Below.drew ?_ | with_reducible refine below_drewN ?_ _ | (with_reducible refine Below.setCell (hp := ?hp) ?_ _; case hp => (first | (simp; done) | (simp; omega)))))); rintro e w4 ⟨A4, n4, q4, rfl, rfl, hE4, hc4, hm4, hb4⟩))
      have hw4 : Below W.heap.size W w4 := Below.trans0 (Below.ext0 (Below.refl _ _) _) hb4
      have hg4 : W.heap.size ≤ w4.heap.size := hw4.size
      refine forget (fun X => Below W.heap.size W X ∧ Elems tPst X X.heap.size A4 L4 ∧ Bk X w4.heap.size #[.int .i64 0, .slice A4 L4.length q4] 34) ⟨Below.alloc0 hw4 _, hE4.keep (below_self _ _) (by simp), Bk.new _ _ _⟩ ?_
      generalize w4.heap.size = g4 at *
      clear hb4 hE4 hw4
      rintro Y4 ⟨hw, hE4, k4⟩
      have hys := hw.size
      have d0 := fun i => (hw.cell (p := ⟨w.heap.size, i, none⟩) l0).trans (c0 i)
      have d1 := fun i => (hw.cell (p := ⟨w.heap.size + 1, i, none⟩) l1).trans (c1 i)
      have m0 : w.heap.size < Y4.heap.size := by omega
      have m1 : w.heap.size + 1 < Y4.heap.size := by omega
      have H4 := Lib.hid (And.intro hw (And.intro hE4 k4))
      clear hw hE4 k4 c0 c1
      go_upto_region 6 with (go_at_call 14; refine (HS6.out _ ?bel).mono ?_; (case bel => have hw := H4.out.1; (repeat (first | with_reducible exact Below.refl _ _ | with_reducible assumption | with_reducible refine Below.alloc0 ?_ _ | with_reducible refine Below.ext0 ?_ _ | with_reducible refine Below.drew ?_ | with_reducible refine below_drewN ?_ _ | (with_reducible refine Below.setCell (hp := ?hp) ?_ _; case hp => (first | (simp; done) | (simp; omega)))))); rintro e w6 ⟨A6, n6, q6, rfl, rfl, hE6, hc6, hm6, hb6⟩)
      have hg6 : Y4.heap.size ≤ w6.heap.size := hb6.size
      refine forget (fun X => Below Y4.heap.size Y4 X ∧ Elems tPst X X.heap.size A6 L6 ∧ Bk X w6.heap.size #[.int .i64 0, .slice A6 L6.length q6] 34) ⟨Below.alloc0 hb6 _, hE6.keep (below_self _ _) (by simp), Bk.new _ _ _⟩ ?_
      generalize w6.heap.size = g6 at *
      clear hb6 hE6
      rintro Y6 ⟨hw, hE6, k6⟩
      have hys6 := hw.size
      have e0 := fun i => (hw.cell (p := ⟨w.heap.size, i, none⟩) m0).trans (d0 i)
      have n0 : w.heap.size < Y6.heap.size := by omega
      have H6 := Lib.hid (And.intro (Below.trans0 H4.out.1 hw) (And.intro (H4.out.2.1.keep hw hys6) (And.intro (H4.out.2.2.below hw) (And.intro hE6 k6))))
      clear hw hE6 k6 d0 d1 H4
      go_upto_region 7 with (go_at_call 16; refine (HS8.out _ ?bel).mono ?_; (case bel => have hw := H6.out.1; (repeat (first | with_reducible exact Below.refl _ _ | with_reducible assumption | with_reducible refine Below.alloc0 ?_ _ | with_reducible refine Below.ext0 ?_ _ | with_reducible refine Below.drew ?_ | with_reducible refine below_drewN ?_ _ | (with_reducible refine Below.setCell (hp := ?hp) ?_ _; case hp => (first | (simp; done) | (simp; omega)))))); rintro e w8 ⟨A8, n8, q8, rfl, rfl, hE8, hc8, hm8, hb8⟩)
      have hg8 : Y6.heap.size ≤ w8.heap.size := hb8.size
      refine forget (fun X => Below Y6.heap.size Y6 X ∧ Elems tPst X X.heap.size A8 L8 ∧ Bk X w8.heap.size #[.int .i64 0, .slice A8 L8.length q8] 34) ⟨Below.alloc0 hb8 _, hE8.keep (below_self _ _) (by simp), Bk.new _ _ _⟩ ?_
      generalize w8.heap.size = g8 at *
      clear hb8 hE8
      rintro Y8 ⟨hw, hE8, k8⟩
      have hys8 := hw.size
      have k4 := H6.out.2.2.1.below hw
      have k6 := H6.out.2.2.2.2.below hw
      have hE4 := H6.out.2.1.keep hw hys8
      have hE6 := H6.out.2.2.2.1.keep hw hys8
      have hwY : Below w.heap.size w Y8 := Below.trans0 (Below.trans0 HW.out.1 H6.out.1) hw
      have i4 := k4.cell
      have i6 := k6.cell
      have i8 := k8.cell
      have j4 := k4.lt
      have j6 := k6.lt
      have j8 := k8.lt
      have hl4 : L4.length ≤ 15 := by rw [← HL.out.1]; exact saleL_len ..
      have hl6 : L6.length ≤ 15 := by rw [← HL.out.2.2.1]; exact resaleL_len ..
      have hl8 : L8.length ≤ 15 := by rw [← HL.out.2.2.2.2.1]; exact refundL_len ..
      have B4 := Lib.hid (bal_in (cap := q4) hE4 (Nat.le_refl _) rfl hl4 (by rw [← HL.out.1]; exact (sale_bal _ _ _ _).1) (by rw [← HL.out.1]; exact saleL_bd) (by rw [← HL.out.1]; exact (sale_bal _ _ _ _).2) (by rw [← HL.out.1]; exact sale_zero ..))
      have B6 := Lib.hid (bal_in (cap := q6) hE6 (Nat.le_refl _) rfl hl6 (by rw [← HL.out.2.2.1]; exact (resale_bal _ _ _ _ _ _ _ _ _).1) (by rw [← HL.out.2.2.1]; exact resaleL_bd) (by rw [← HL.out.2.2.1]; exact (resale_bal _ _ _ _ _ _ _ _ _).2) (by rw [← HL.out.2.2.1]; exact resale_zero ..))
      have B8 := Lib.hid (bal_in (cap := q8) hE8 (Nat.le_refl _) rfl hl8 (by rw [← HL.out.2.2.2.2.1]; exact (refund_bal _ _ _ _).1) (by rw [← HL.out.2.2.2.2.1]; exact refundL_bd) (by rw [← HL.out.2.2.2.2.1]; exact (refund_bal _ _ _ _).2) (by rw [← HL.out.2.2.2.2.1]; exact refund_zero ..))
      have HY := Lib.hid hwY
      clear hw k4 k6 k8 hE4 hE6 hE8 hwY HS4 HS6 HS8 HL HE HH HF HW H6 e0
      obtain ⟨y4, y6, y8⟩ := HYS.out
      clear HYS
      rcases y4 with rfl | ⟨z4, rfl⟩ <;> rcases y6 with rfl | ⟨z6, rfl⟩ <;> rcases y8 with rfl | ⟨z8, rfl⟩
      all_goals as_aux_lemma =>
        go_wp2_with (go_at_call 19; (first | with_reducible refine Calls.mono (B4.out _ ?bel) ?_ | with_reducible refine Calls.mono (B6.out _ ?bel) ?_ | with_reducible refine Calls.mono (B8.out _ ?bel) ?_); (case bel => (repeat (first | with_reducible exact Below.refl _ _ | with_reducible assumption | with_reducible refine Below.alloc0 ?_ _ | with_reducible refine Below.ext0 ?_ _ | with_reducible refine Below.drew ?_ | with_reducible refine below_drewN ?_ _ | (with_reducible refine Below.setCell (hp := ?hp) ?_ _; case hp => (first | (simp; done) | (simp; omega)))))); rintro e w' ⟨rfl, hb⟩; (first | (obtain ⟨u, rfl⟩ := ext_more hb; clear hb) | (obtain ⟨u, rfl⟩ := ext_more_alloc hb; clear hb) | (obtain ⟨u, rfl⟩ := ext_of hb; clear hb)))
        go_ret
        exact ⟨rfl, by have hw := HY.out; (repeat (first | with_reducible exact Below.refl _ _ | with_reducible assumption | with_reducible refine Below.alloc0 ?_ _ | with_reducible refine Below.ext0 ?_ _ | with_reducible refine Below.drew ?_ | with_reducible refine below_drewN ?_ _ | (with_reducible refine Below.setCell (hp := ?hp) ?_ _; case hp => (first | (simp; done) | (simp; omega)))))⟩
set_option maxRecDepth 100000 in
theorem dealBalances_lifted (os : Os) (started : os.Started) (H : Type) (enc : TypeId × Value → H) :
    ReturnsInHanded {} Try.checked os 4 .any (Rows.dealBalancesSpec.pre6 enc Try.prog Try.f4 [] false) (Rows.dealBalancesSpec.post enc Try.prog Try.f4 false true false false) := by
  refine law_lifted (C := Try.checked) own started (by kernel_rfl) Try.func4 rfl (fun ds hds => ?_) (tb := 4) (by kernel_rfl) Try.underlying4 laidOut (fun t ht => ?_)
    (ChangeSpec.witness6 (enc := enc) (C := Try.checked) false ⟨#[], #[.agg #[.slice none 0 0, .int .i64 0], .int .i64 0, .agg #[.bool false, .bool false, .bool false, .int .i64 0, .int .i64 0, .int .i64 0, .int .i64 0, .int .i64 0, .int .i64 0, .int .i64 0, .int .i64 0, .int .i64 0, .int .i64 0, .int .i64 0, .int .i64 0, .int .i64 0], .string ⟨#[]⟩, .slice none 0 0], []⟩ 8 (by kernel_rfl) (by kernel_rfl) (by kernel_rfl) (by kernel_rfl)) ?_
  · rw [Try.params4] at hds
    match ds, hds with
    | [_, _, _, _, _], _ => rfl
  · have := List.all_eq_true.1 (show (Try.f4.params.toList.all fun t => Try.prog.readableRec t && decide (t < Try.prog.types.size)) = true by kernel_rfl) t ht
    simp only [Bool.and_eq_true, decide_eq_true_eq] at this
    exact this
  · intro W args g
    rw [Try.params4] at g
    obtain ⟨v0, q0, e0, g0, h0⟩ := g.cons_inv
    obtain ⟨v1, q1, rfl, g1, h1⟩ := h0.cons_inv
    obtain ⟨v2, q2, rfl, g2, h2⟩ := h1.cons_inv
    obtain ⟨v3, q3, rfl, g3, h3⟩ := h2.cons_inv
    obtain ⟨v4, q4, rfl, g4, h4⟩ := h3.cons_inv
    obtain rfl := h4.nil_inv
    obtain rfl : args = #[v0, v1, v2, v3, v4] := by cases args; simp_all
    obtain ⟨c0, y0, rfl, r0⟩ := g0.agg Try.underlying24 opensBill
    obtain ⟨m, rfl, b0⟩ := g1.int Try.underlying3 (by kernel_rfl)
    obtain ⟨c1, y1, rfl, r1⟩ := g2.agg Try.underlying28 opensDec
    obtain ⟨pn, rfl, b1⟩ := g3.str Try.underlying9 (by kernel_rfl)
    obtain ⟨A2, cap2, ms, rfl, d1, d2, d3⟩ := g4.slice Try.underlying29 opensMeans
    obtain ⟨A, cap, rfl, a1, a2, a3, a4⟩ := bill_of r0
    obtain ⟨ok, tg, si, lim, price, fn, fd, tn, td, cn, cd, sn, sd, rn, rd, y, rfl⟩ := dec_of r1
    exact balances_walk m A y0.1 cap y0.2 ok tg si lim price fn fd tn td cn cd sn sd rn rd y pn A2 ms cap2 W a3 d3 (by unfold maxLen at a2; omega) (by unfold maxLen at d2; omega) a4 b1 b0

theorem dealBalances_holds : Rows.DealBalancesSaid :=
  OpenClaim.holds_of_wide 4 Try.f4 rfl rfl rfl rfl rfl rfl rfl ⟨rfl, rfl, rfl, rfl, rfl⟩ rfl rfl rfl rfl rfl (by kernel_rfl) Try.func4 (by kernel_rfl)
    (of_decide_eq_true (by kernel_rfl)) (by unfold Func.isWrapper; first | (rw [if_pos (by decide +kernel)]; kernel_rfl) | (rw [if_neg (by decide +kernel)]; exact ⟨rfl, rfl⟩))
    (fun os started H enc _ => dealBalances_lifted os started H enc)
#print axioms dealBalances_holds
end Go.Proofs.Ytggmihnhdojepaa
