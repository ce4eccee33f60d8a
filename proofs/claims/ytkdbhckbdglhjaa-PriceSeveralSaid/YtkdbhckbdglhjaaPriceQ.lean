/- PriceSeveral: the face value is so many times that of one place, and the fee, and the tax if the fee is 0/1, differ from so many times that of one place by at most half a cent for each place, and half a cent; for every decision and number; no condition. -/
import Derived.Test.YtkdbhckbdglhjaaPriceP
namespace Go.Proofs.Ytkdbhckbdglhjaa
open Go.RowKit Go.ChangeAt
set_option linter.unusedVariables false
set_option linter.unusedSimpArgs false
attribute [local go_sem] ext_cell ext_frozen lt_ext ext_drew

theorem quoteE_one (al : Bool) (price fn fd tn td n : Int) : (quoteE al price fn fd tn td n = 0 ∨ quoteE al price fn fd tn td n = 1 ∨ quoteE al price fn fd tn td n = 2 ∨ quoteE al price fn fd tn td n = 15 ∧ quoteE al price fn fd tn td 1 = 15) := by
  unfold quoteE
  split
  · rename_i hc
    split
    · split
      · exact .inl rfl
      · exact .inr (.inr (.inl rfl))
    · refine .inr (.inr (.inr ⟨rfl, ?_⟩))
      simp only [Bool.and_eq_true, decide_eq_true_eq] at hc
      obtain ⟨⟨⟨⟨⟨c1, c2⟩, c3⟩, c4⟩, c5⟩, c6⟩ := hc
      rw [if_pos (by rw [c5, c6]; simp; omega)]
  · exact .inr (.inl rfl)

theorem sev_abs {x n : Int} (h : 2 * x ≤ n + 1 ∧ -(n + 1) ≤ 2 * x) : 2 * max x (-x) ≤ n + 1 := by omega

set_option maxRecDepth 100000 in
set_option maxHeartbeats 2000000 in
theorem several_walk (al to si : Bool) (lim price fn fd tn td cn cd sn sd rn rd y n : Int) (w : World) :
    Calls Try.prog 5 #[.agg (decCells al to si lim price fn fd tn td cn cd sn sd rn rd y), .int .i64 n] w fun e w' => e = .returned (.bool true) ∧ Below w.heap.size w w' := by
  unfold decCells
  have hv := quoteE_one al price fn fd tn td n
  obtain ⟨er, her⟩ : ∃ x, quoteE al price fn fd tn td 1 = x := ⟨_, rfl⟩
  obtain ⟨L1, hL1⟩ : ∃ x, quoteL al price fn fd tn td 1 = x := ⟨_, rfl⟩
  obtain ⟨fr, hfr⟩ : ∃ x, quoteE al price fn fd tn td n = x := ⟨_, rfl⟩
  obtain ⟨L2, hL2⟩ : ∃ x, quoteL al price fn fd tn td n = x := ⟨_, rfl⟩
  rw [her, hfr] at hv
  have Her := Lib.hid her
  have HL1 := Lib.hid hL1
  have Hfr := Lib.hid hfr
  have HL2 := Lib.hid hL2
  have HV := Lib.hid hv
  clear her hL1 hfr hL2 hv
  go_enter Try.func5, Try.ntmps5
  go_wp2_with fail
  refine (head_any _).mono ?_
  rintro e w1 ⟨rfl, hb⟩
  have HB := Lib.hid (And.intro (Below.trans0 (below_self w _) hb) ((Bk.new w #[.bool al, .bool to, .bool si, .int .i64 lim, .int .i64 price, .int .i64 fn, .int .i64 fd, .int .i64 tn, .int .i64 td, .int .i64 cn, .int .i64 cd, .int .i64 sn, .int .i64 sd, .int .i64 rn, .int .i64 rd, .int .i64 y] 25).below hb))
  clear hb
  have c1 := HB.out.2.cell
  have l1 := HB.out.2.lt
  go_wp2_with fail
  refine (quote_is er L1 _ _ _ _ _ _ _ _ _ _ _ _ _ _ _ _ _ _ Her HL1).mono ?_
  rintro e w2 ⟨A1, k1, rfl, hE, hk1, _, _, hb⟩
  have HX := Lib.hid (And.intro (Below.trans0 HB.out.1 hb) (And.intro (HB.out.2.below hb) hE))
  clear hb HB c1 l1 hE
  have c1 := HX.out.2.1.cell
  have l1 := HX.out.2.1.lt
  go_wp2_with fail
  refine (quote_is fr L2 _ _ _ _ _ _ _ _ _ _ _ _ _ _ _ _ _ _ Hfr HL2).mono ?_
  rintro e w3 ⟨A2, k2, rfl, hE2, hk2, _, _, hb⟩
  have hb' : Below w2.heap.size w2 w3 := Below.trans0 (below_self _ _) hb
  have HY := Lib.hid (And.intro (HX.out.1.trans (hb'.mono HX.out.1.size)) (And.intro (HX.out.2.1.below hb') (And.intro (HX.out.2.2.keep hb' hb'.size) (And.intro hE2 ((Bk.new w2 #[.slice A1 L1.length k1, .int .i64 (sumOf L1)] 28).below hb)))))
  clear hb hb' hE2 HX c1 l1
  generalize w2.heap.size = x at *
  have cx := HY.out.2.2.2.2.cell
  have lx := HY.out.2.2.2.2.lt
  by_cases hg : er = 0 ∧ fr = 0
  · obtain ⟨rfl, rfl⟩ := hg
    obtain ⟨_, _, _, hrf, hrt, F1, a1, a2, e1, e2, e3, hL1, g0, g1, g2, g3⟩ := quote_good Her.out
    obtain ⟨_, ⟨n1, n2⟩, ⟨p1, p2⟩, _, _, F2, b1, b2, e4, e5, e6, hL2, h0, h1, h2, h3⟩ := quote_good Hfr.out
    obtain rfl : L1 = [(1, F1), (2, a1), (3, a2)] := HL1.out.symm.trans hL1
    obtain rfl : L2 = [(1, F2), (2, b1), (3, b2)] := HL2.out.symm.trans hL2
    have es1 : sumOf [(1, F1), (2, a1), (3, a2)] = F1 + a1 + a2 := by simp [sumOf]; omega
    have es2 : sumOf [(1, F2), (2, b1), (3, b2)] = F2 + b1 + b2 := by simp [sumOf]; omega
    have hfd := ratioB_out hrf
    have htd := ratioB_out hrt
    have hFF : F2 = n * F1 := by rw [← e4, ← e1, Int.one_mul]
    have hS1 : 2 * (b1 - n * a1) ≤ n + 1 ∧ -(n + 1) ≤ 2 * (b1 - n * a1) := by
      have := round_several (F1 * fn) n fd (by omega) (by omega)
      rw [← Int.mul_assoc, ← hFF, e5, e2] at this
      exact this
    have hS2 : fn ≤ 0 → 2 * (b2 - n * a2) ≤ n + 1 ∧ -(n + 1) ≤ 2 * (b2 - n * a2) := fun hz => by
      obtain rfl : fn = 0 := by omega
      have z1 : a1 = 0 := by rw [← e2, Int.mul_zero, round_zero fd (by omega)]
      have z2 : b1 = 0 := by rw [← e5, Int.mul_zero, round_zero fd (by omega)]
      have := round_several (F1 * tn) n td (by omega) (by omega)
      rw [← Int.mul_assoc, ← hFF] at this
      rw [z1, Int.add_zero] at e3
      rw [z2, Int.add_zero] at e6
      rw [e6, e3] at this
      exact this
    have q1 : 0 ≤ n * a1 := Int.mul_nonneg (by omega) g1
    have q2 : n * a1 ≤ 12000000000 := Int.mul_le_mul (c := 12) n2 (by omega : a1 ≤ 1000000000) g1 (by omega)
    have q3 : 0 ≤ n * a2 := Int.mul_nonneg (by omega) g2
    have q4 : n * a2 ≤ 12000000000 := Int.mul_le_mul (c := 12) n2 (by omega : a2 ≤ 1000000000) g2 (by omega)
    have q5 : 0 ≤ n * F1 := Int.mul_nonneg (by omega) g0
    have q6 : n * F1 ≤ 12000000000 := Int.mul_le_mul (c := 12) n2 (by omega : F1 ≤ 1000000000) g0 (by omega)
    have k1' : (3 : Int) ≤ k1 := by simp at hk1; omega
    have k2' : (3 : Int) ≤ k2 := by simp at hk2; omega
    have HS1 := Lib.hid hS1
    have HS2 := Lib.hid hS2
    have HFF := Lib.hid hFF
    rw [es1, es2]
    clear e1 e2 e3 e4 e5 e6 es1 es2 hL1 hL2 hrf hrt hFF hS1 hS2 HL1 HL2 Her Hfr HV cx lx hk1 hk2 htd
    go_upto_region 4 with (fail)
    refine forget (fun W => Below w.heap.size w W ∧ Bk W w.heap.size #[.bool al, .bool to, .bool si, .int .i64 lim, .int .i64 price, .int .i64 fn, .int .i64 fd, .int .i64 tn, .int .i64 td, .int .i64 cn, .int .i64 cd, .int .i64 sn, .int .i64 sd, .int .i64 rn, .int .i64 rd, .int .i64 y] 25 ∧ Bk W x #[.slice A1 3 k1, .int .i64 (F1 + a1 + a2)] 28 ∧ Bk W w3.heap.size #[.slice A2 3 k2, .int .i64 (F2 + b1 + b2)] 28 ∧ Elems tLine W W.heap.size A1 [(1, F1), (2, a1), (3, a2)] ∧ Elems tLine W W.heap.size A2 [(1, F2), (2, b1), (3, b2)]) ⟨?_, ?_, ?_, ?_, ?_, ?_⟩ ?_
    · have hw := HY.out.1; (repeat (first | with_reducible exact Below.refl _ _ | with_reducible assumption | with_reducible refine Below.alloc0 ?_ _ | with_reducible refine Below.ext0 ?_ _ | with_reducible refine Below.drew ?_ | with_reducible refine below_drewN ?_ _ | (with_reducible refine Below.setCell (hp := ?hp) ?_ _; case hp => (first | (simp; done) | (simp; omega)))))
    · exact HY.out.2.1.alloc _
    · have h := HY.out.2.2.2.2.alloc (.cells #[.slice A2 3 k2, .int .i64 (F2 + b1 + b2)] 28)
      have es1 : sumOf [(1, F1), (2, a1), (3, a2)] = F1 + a1 + a2 := by simp [sumOf]; omega
      rw [es1] at h
      exact h
    · exact Bk.new _ _ _
    · exact HY.out.2.2.1.keep (below_self _ _) (by simp)
    · exact HY.out.2.2.2.1.keep (below_self _ _) (by simp)
    generalize w3.heap.size = z at *
    clear HY
    rintro W ⟨hw, bD, bX, bZ, hE1, hE2⟩
    obtain ⟨b, off, rfl, hbl, d0, d1, d2, d3, d4, d5, _⟩ := three_cells hE1
    obtain ⟨b', off', rfl, hbl', d0', d1', d2', d3', d4', d5', _⟩ := three_cells hE2
    have HW := Lib.hid hw
    have cD := bD.cell
    have lD := bD.lt
    have cX := bX.cell
    have lX := bX.lt
    have cZ := bZ.cell
    have lZ := bZ.lt
    clear hw bD bX bZ hE1 hE2 d0 d2 d4 d0' d2' d4'
    go_wp2_with fail
    refine wp_region_ext _ (by kernel_rfl) (by kernel_rfl) ?_
    repeat (go_big_quiet_step (fail))
    refine wpQuiet_nil (fun v => ?_)
    go_wp2_with fail
    refine wp_region_more _ _ (by kernel_rfl) (by kernel_rfl) ?_
    repeat (go_big_quiet_step (fail))
    refine wpQuiet_nil (fun v => ?_)
    have eFF := HFF.out
    have hmx := ite_max
    by_cases hfn : 0 < fn
    · have m1 : decide (2 * max (b1 - n * a1) (-(b1 - n * a1)) ≤ n + 1) = true := by have := sev_abs HS1.out; simpa using this
      go_wp2_with fail
      refine wp_region_more _ _ (by kernel_rfl) (by kernel_rfl) ?_
      repeat (go_big_quiet_step (fail))
      refine wpQuiet_nil (fun v => ?_)
      go_wp2_with fail
      go_ret
      exact ⟨ret_bool (by simp [*]; try omega), by have hw := HW.out; (repeat (first | with_reducible exact Below.refl _ _ | with_reducible assumption | with_reducible refine Below.alloc0 ?_ _ | with_reducible refine Below.ext0 ?_ _ | with_reducible refine Below.drew ?_ | with_reducible refine below_drewN ?_ _ | (with_reducible refine Below.setCell (hp := ?hp) ?_ _; case hp => (first | (simp; done) | (simp; omega)))))⟩
    · have m1 : decide (2 * max (b1 - n * a1) (-(b1 - n * a1)) ≤ n + 1) = true := by have := sev_abs HS1.out; simpa using this
      have m2 : decide (2 * max (b2 - n * a2) (-(b2 - n * a2)) ≤ n + 1) = true := by have := sev_abs (HS2.out (by omega)); simpa using this
      go_wp2_with fail
      refine wp_region_more _ _ (by kernel_rfl) (by kernel_rfl) ?_
      repeat (go_big_quiet_step (fail))
      refine wpQuiet_nil (fun v => ?_)
      go_wp2_with fail
      go_ret
      exact ⟨ret_bool (by simp [*]; try omega), by have hw := HW.out; (repeat (first | with_reducible exact Below.refl _ _ | with_reducible assumption | with_reducible refine Below.alloc0 ?_ _ | with_reducible refine Below.ext0 ?_ _ | with_reducible refine Below.drew ?_ | with_reducible refine below_drewN ?_ _ | (with_reducible refine Below.setCell (hp := ?hp) ?_ _; case hp => (first | (simp; done) | (simp; omega)))))⟩
  · have hlen : er = 0 → L1.length = 3 := fun h => by
      obtain ⟨_, _, _, _, _, F, r1, r2, _, _, _, hL, _⟩ := quote_good (Her.out.trans h)
      rw [← HL1.out, hL]; rfl
    by_cases he : er = 0
    · subst he
      have h3 := hlen rfl
      have hf : fr = 1 ∨ fr = 2 := by have := HV.out; omega
      rcases hf with rfl | rfl
      all_goals
        go_wp2_with fail
        go_ret
        exact ⟨ret_bool (by simp [*]), by have hw := HY.out.1; (repeat (first | with_reducible exact Below.refl _ _ | with_reducible assumption | with_reducible refine Below.alloc0 ?_ _ | with_reducible refine Below.ext0 ?_ _ | with_reducible refine Below.drew ?_ | with_reducible refine below_drewN ?_ _ | (with_reducible refine Below.setCell (hp := ?hp) ?_ _; case hp => (first | (simp; done) | (simp; omega)))))⟩
    · have hf : fr = 0 ∨ fr = 1 ∨ fr = 2 ∨ (fr = 15 ∧ er = 15) := by have := HV.out; omega
      rcases hf with rfl | rfl | rfl | ⟨rfl, rfl⟩
      all_goals
        go_wp2_with fail
        go_ret
        exact ⟨ret_bool (by simp [*]), by have hw := HY.out.1; (repeat (first | with_reducible exact Below.refl _ _ | with_reducible assumption | with_reducible refine Below.alloc0 ?_ _ | with_reducible refine Below.ext0 ?_ _ | with_reducible refine Below.drew ?_ | with_reducible refine below_drewN ?_ _ | (with_reducible refine Below.setCell (hp := ?hp) ?_ _; case hp => (first | (simp; done) | (simp; omega)))))⟩

set_option maxRecDepth 100000 in
theorem priceSeveral_lifted (os : Os) (started : os.Started) (H : Type) (enc : TypeId × Value → H) :
    ReturnsInHanded {} Try.checked os 5 .any (Rows.priceSeveralSpec.pre6 enc Try.prog Try.f5 [] false) (Rows.priceSeveralSpec.post enc Try.prog Try.f5 false true false false) := by
  refine law_lifted (C := Try.checked) own started (by kernel_rfl) Try.func5 rfl (fun ds hds => ?_) (tb := 4) (by kernel_rfl) Try.underlying4 laidOut (fun t ht => ?_)
    (ChangeSpec.witness6 (enc := enc) (C := Try.checked) false ⟨#[], #[.agg #[.bool false, .bool false, .bool false, .int .i64 0, .int .i64 0, .int .i64 0, .int .i64 0, .int .i64 0, .int .i64 0, .int .i64 0, .int .i64 0, .int .i64 0, .int .i64 0, .int .i64 0, .int .i64 0, .int .i64 0], .int .i64 0], []⟩ 8 (by kernel_rfl) (by kernel_rfl) (by kernel_rfl) (by kernel_rfl)) ?_
  · rw [Try.params5] at hds
    match ds, hds with
    | [_, _], _ => rfl
  · have := List.all_eq_true.1 (show (Try.f5.params.toList.all fun t => Try.prog.readableRec t && decide (t < Try.prog.types.size)) = true by kernel_rfl) t ht
    simp only [Bool.and_eq_true, decide_eq_true_eq] at this
    exact this
  · intro W args g
    rw [Try.params5] at g
    obtain ⟨v0, q0, e0, g0, h0⟩ := g.cons_inv
    obtain ⟨v1, q1, rfl, g1, h1⟩ := h0.cons_inv
    obtain rfl := h1.nil_inv
    obtain rfl : args = #[v0, v1] := by cases args; simp_all
    obtain ⟨c0, y0, rfl, r0⟩ := g0.agg Try.underlying25 opensDec
    obtain ⟨n, rfl, x1⟩ := g1.int Try.underlying3 (by kernel_rfl)
    obtain ⟨al, to, si, lim, price, fn, fd, tn, td, cn, cd, sn, sd, rn, rd, y, rfl, _⟩ := dec_of r0
    exact several_walk al to si lim price fn fd tn td cn cd sn sd rn rd y n W

theorem priceSeveral_holds : Rows.PriceSeveralSaid :=
  OpenClaim.holds_of_wide 5 Try.f5 rfl rfl rfl rfl rfl rfl rfl ⟨rfl, rfl, rfl, rfl, rfl⟩ rfl rfl rfl rfl rfl (by kernel_rfl) Try.func5 (by kernel_rfl)
    (of_decide_eq_true (by kernel_rfl)) (by unfold Func.isWrapper; first | (rw [if_pos (by decide +kernel)]; kernel_rfl) | (rw [if_neg (by decide +kernel)]; exact ⟨rfl, rfl⟩))
    (fun os started H enc _ => priceSeveral_lifted os started H enc)
#print axioms priceSeveral_holds
end Go.Proofs.Ytkdbhckbdglhjaa
