/- PriceBack: the whole of a right bill is its total, nothing of it 0, and the ratio and what is missing to 1 add up to the total, but for one cent; for every bill and ratio; no condition. -/
import Derived.Test.YtdacfopdalgkaaaPriceP
namespace Go.Proofs.Ytdacfopdalgkaaa
open Go.RowKit Go.ChangeAt
set_option linter.unusedVariables false
set_option linter.unusedSimpArgs false
attribute [local go_sem] ext_cell ext_frozen lt_ext ext_drew

theorem right_is (r : Bool) (A : Option Addr) (ls : List Ln) (cap n : Nat) (total : Int) (w : World) (B : Nat) (h : Elems tLine w B A ls) (hB : B ≤ w.heap.size) (hn : ls.length = n) (hl : n ≤ 60) (ht : fits total) (hr : Hid (rightB ls total = r)) :
    Calls Try.prog 18 #[.agg #[.slice A n cap, .int .i64 total]] w fun e w' => e = .returned (.bool r) ∧ Below w.heap.size w w' := by
  subst hn
  have := right_any A ls cap total w B h hB hl ht
  rwa [hr.out] at this

/-- The shares of a right bill. -/
theorem back_laws {ls : List Ln} {total num den : Int} (hr : rightB ls total = true) (h : ratioB num den = true) (hle : num ≤ den) :
    backE 0 ls total den den = 0 ∧ backV 0 ls total den den = total ∧ backE 0 ls total 0 den = 0 ∧ backV 0 ls total 0 den = 0 ∧ backE 0 ls total num den = 0 ∧ backE 0 ls total (den - num) den = 0 ∧
      -1 ≤ backV 0 ls total num den + backV 0 ls total (den - num) den - total ∧ backV 0 ls total num den + backV 0 ls total (den - num) den - total ≤ 1 ∧ 0 ≤ total ∧ total ≤ 1000000000 ∧
      0 ≤ backV 0 ls total num den ∧ backV 0 ls total num den ≤ 1000000000 ∧ 0 ≤ backV 0 ls total (den - num) den ∧ backV 0 ls total (den - num) den ≤ 1000000000 := by
  have hd := ratioB_out h
  have hr' := hr
  simp only [rightB, Bool.and_eq_true, decide_eq_true_eq] at hr'
  obtain ⟨⟨⟨_, hall⟩, hs⟩, hm⟩ := hr'
  have hsum : partOf 0 ls = total := by
    rw [← hs]
    unfold partOf
    rw [List.filter_eq_self.2 (fun l _ => by simp [pickB])]
  have h0 := (sumOf_bd ls hall).1
  rw [hs] at h0 hm
  have hv : validB total = true := validB_in (by omega)
  have key : ∀ a, 0 ≤ a → a ≤ den → shareE total a den = 0 ∧ shareV total a den = roundP (total * a) den ∧ 0 ≤ roundP (total * a) den ∧ roundP (total * a) den ≤ total := fun a ha hb => by
    have hrb : ratioB a den = true := ratioB_in (by omega)
    have b1 : 0 ≤ roundP (total * a) den := round_nonneg (by omega) (Int.mul_nonneg h0 ha)
    have b2 := round_le (n := total) (num := a) (den := den) (by omega) h0 hb
    obtain ⟨e1, e2⟩ := share_is (v := roundP (total * a) den) hv hrb rfl
    rw [validB_in (by omega)] at e1 e2
    exact ⟨e2, e1, b1, b2⟩
  unfold backE backV
  simp only [hr, if_true, hsum]
  obtain ⟨a1, a2, a3, a4⟩ := key den (by omega) (by omega)
  obtain ⟨b1, b2, b3, b4⟩ := key 0 (by omega) (by omega)
  obtain ⟨c1, c2, c3, c4⟩ := key num (by omega) (by omega)
  obtain ⟨d1, d2, d3, d4⟩ := key (den - num) (by omega) (by omega)
  have hrest := round_rest total num den (by omega)
  rw [a2, b2, c2, d2]
  refine ⟨a1, round_whole total den (by omega), b1, by rw [Int.mul_zero, round_zero den (by omega)], c1, d1, hrest.1, hrest.2, h0, hm, c3, by omega, d3, by omega⟩

set_option maxRecDepth 100000 in
set_option maxHeartbeats 2000000 in
theorem back_walk (A : Option Addr) (ls : List Ln) (cap : Nat) (total num den : Int) (w : World) (h : Elems tLine w w.heap.size A ls) (hm : ls.length ≤ 9223372036854775807) (ht : fits total) (hnd : fits num ∧ fits den) :
    Calls Try.prog 7 #[.agg #[.slice A ls.length cap, .int .i64 total], .agg #[.int .i64 num, .int .i64 den]] w fun e w' => e = .returned (.bool true) ∧ Below w.heap.size w w' := by
  obtain ⟨r, hr⟩ : ∃ r, rightB ls total = r := ⟨_, rfl⟩
  obtain ⟨q, hq⟩ : ∃ q, ratioB num den = q := ⟨_, rfl⟩
  have Hr := Lib.hid hr
  have Hq := Lib.hid hq
  have H := Lib.hid h
  clear h hr hq
  go_enter Try.func7, Try.ntmps7
  go_wp2_with fail
  refine (head_any _).mono ?_
  rintro e w1 ⟨rfl, hb⟩
  have b1 := ((Bk.new w #[.slice A ls.length cap, .int .i64 total] 28).alloc (.cells #[.int .i64 num, .int .i64 den] 23)).below hb
  have b2 := (bk_next w (.cells #[.slice A ls.length cap, .int .i64 total] 28) #[.int .i64 num, .int .i64 den] 23).below hb
  have hw := Below.trans0 (Below.alloc0 (below_self w _) _) hb
  have hE := H.out.keep hw hw.size
  have HW := Lib.hid hw
  have HE := Lib.hid hE
  have c1 := b1.cell
  have l1 := b1.lt
  have c2 := b2.cell
  have l2 := b2.lt
  clear hb b1 b2 hw hE H
  by_cases h60 : 60 < (ls.length : Int)
  · as_aux_lemma =>
      go_wp2_with fail
      go_ret
      exact ⟨rfl, HW.out⟩
  · have h60' : ls.length ≤ 60 := by omega
    cases r
    · as_aux_lemma =>
        go_wp2_with (go_at_call 18; refine (right_is false _ ls _ _ _ _ w1.heap.size HE.out (Nat.le_refl _) rfl h60' ht Hr).mono ?_; rintro e w' ⟨rfl, hb⟩; (first | (obtain ⟨u, rfl⟩ := ext_more hb; clear hb) | (obtain ⟨u, rfl⟩ := ext_more_alloc hb; clear hb) | (obtain ⟨u, rfl⟩ := ext_of hb; clear hb)))
        go_ret
        exact ⟨rfl, by have hw := HW.out; (repeat (first | with_reducible exact Below.refl _ _ | with_reducible assumption | with_reducible refine Below.alloc0 ?_ _ | with_reducible refine Below.ext0 ?_ _ | with_reducible refine Below.drew ?_ | with_reducible refine below_drewN ?_ _ | (with_reducible refine Below.setCell (hp := ?hp) ?_ _; case hp => (first | (simp; done) | (simp; omega)))))⟩
    · cases q
      · as_aux_lemma =>
          go_wp2_with (first
            | (go_at_call 18; refine (right_is true _ ls _ _ _ _ w1.heap.size HE.out (Nat.le_refl _) rfl h60' ht Hr).mono ?_; rintro e w' ⟨rfl, hb⟩; (first | (obtain ⟨u, rfl⟩ := ext_more hb; clear hb) | (obtain ⟨u, rfl⟩ := ext_more_alloc hb; clear hb) | (obtain ⟨u, rfl⟩ := ext_of hb; clear hb)))
            | (go_at_call 19; refine (rratio_is false _ _ _ Hq).mono ?_; rintro e w' ⟨rfl, hb⟩; (first | (obtain ⟨u, rfl⟩ := ext_more hb; clear hb) | (obtain ⟨u, rfl⟩ := ext_more_alloc hb; clear hb) | (obtain ⟨u, rfl⟩ := ext_of hb; clear hb))))
          go_ret
          exact ⟨rfl, by have hw := HW.out; (repeat (first | with_reducible exact Below.refl _ _ | with_reducible assumption | with_reducible refine Below.alloc0 ?_ _ | with_reducible refine Below.ext0 ?_ _ | with_reducible refine Below.drew ?_ | with_reducible refine below_drewN ?_ _ | (with_reducible refine Below.setCell (hp := ?hp) ?_ _; case hp => (first | (simp; done) | (simp; omega)))))⟩
      · by_cases hle : den < num
        · as_aux_lemma =>
            go_wp2_with (first
              | (go_at_call 18; refine (right_is true _ ls _ _ _ _ w1.heap.size HE.out (Nat.le_refl _) rfl h60' ht Hr).mono ?_; rintro e w' ⟨rfl, hb⟩; (first | (obtain ⟨u, rfl⟩ := ext_more hb; clear hb) | (obtain ⟨u, rfl⟩ := ext_more_alloc hb; clear hb) | (obtain ⟨u, rfl⟩ := ext_of hb; clear hb)))
              | (go_at_call 19; refine (rratio_is true _ _ _ Hq).mono ?_; rintro e w' ⟨rfl, hb⟩; (first | (obtain ⟨u, rfl⟩ := ext_more hb; clear hb) | (obtain ⟨u, rfl⟩ := ext_more_alloc hb; clear hb) | (obtain ⟨u, rfl⟩ := ext_of hb; clear hb))))
            go_ret
            exact ⟨rfl, by have hw := HW.out; (repeat (first | with_reducible exact Below.refl _ _ | with_reducible assumption | with_reducible refine Below.alloc0 ?_ _ | with_reducible refine Below.ext0 ?_ _ | with_reducible refine Below.drew ?_ | with_reducible refine below_drewN ?_ _ | (with_reducible refine Below.setCell (hp := ?hp) ?_ _; case hp => (first | (simp; done) | (simp; omega)))))⟩
        · have hd := ratioB_out Hq.out
          obtain ⟨e1, v1, e2, v2, e3, e4, d1, d2, t1, t2, x1, x2, x3, x4⟩ := back_laws Hr.out Hq.out (by omega : num ≤ den)
          obtain ⟨p, hp⟩ : ∃ p, backV 0 ls total num den = p := ⟨_, rfl⟩
          obtain ⟨s, hs⟩ : ∃ s, backV 0 ls total (den - num) den = s := ⟨_, rfl⟩
          rw [hp, hs] at d1 d2
          rw [hp] at x1 x2
          rw [hs] at x3 x4
          have E1 := Lib.hid e1
          have V1 := Lib.hid v1
          have E2 := Lib.hid e2
          have V2 := Lib.hid v2
          have E3 := Lib.hid e3
          have V3 := Lib.hid hp
          have E4 := Lib.hid e4
          have V4 := Lib.hid hs
          clear e1 v1 e2 v2 e3 e4 hp hs
          have hle' : num ≤ den := by omega
          clear hle hnd
          as_aux_lemma =>
            go_upto_region 4 with (first
              | (go_at_call 18; refine (right_is true _ ls _ _ _ _ w1.heap.size HE.out (Nat.le_refl _) rfl h60' ht Hr).mono ?_; rintro e w' ⟨rfl, hb⟩; (first | (obtain ⟨u, rfl⟩ := ext_more hb; clear hb) | (obtain ⟨u, rfl⟩ := ext_more_alloc hb; clear hb) | (obtain ⟨u, rfl⟩ := ext_of hb; clear hb)))
              | (go_at_call 19; refine (rratio_is true _ _ _ Hq).mono ?_; rintro e w' ⟨rfl, hb⟩; (first | (obtain ⟨u, rfl⟩ := ext_more hb; clear hb) | (obtain ⟨u, rfl⟩ := ext_more_alloc hb; clear hb) | (obtain ⟨u, rfl⟩ := ext_of hb; clear hb))))
            refine wp_region_more _ _ (by kernel_rfl) (by kernel_rfl) ?_
            repeat (go_big_quiet_step (first
              | (go_at_call 17; exact Calls.in_ext (ratio_any _ _ _))
              | (go_at_call 12; exact Calls.in_ext (back_is total 0 _ ls _ _ _ _ _ _ w1.heap.size (HE.out.ext (Nat.le_refl _) _) (size_ext _ _) rfl h60' ht V1 E1))))
            refine wpQuiet_nil (fun v => ?_)
            go_wp2_with fail
            refine wp_region_more _ _ (by kernel_rfl) (by kernel_rfl) ?_
            repeat (go_big_quiet_step (first
              | (go_at_call 17; exact Calls.in_ext (ratio_any _ _ _))
              | (go_at_call 12; exact Calls.in_ext (back_is 0 0 _ ls _ _ _ _ _ _ w1.heap.size (HE.out.ext (Nat.le_refl _) _) (size_ext _ _) rfl h60' ht V2 E2))))
            refine wpQuiet_nil (fun v => ?_)
            go_wp2_with (go_at_call 12; refine (back_is p 0 _ ls _ _ _ _ _ _ w1.heap.size (HE.out.ext (Nat.le_refl _) _) (size_ext _ _) rfl h60' ht V3 E3).mono ?_; rintro e w' ⟨rfl, hb⟩; (first | (obtain ⟨u, rfl⟩ := ext_more hb; clear hb) | (obtain ⟨u, rfl⟩ := ext_more_alloc hb; clear hb) | (obtain ⟨u, rfl⟩ := ext_of hb; clear hb)))
            refine wp_region_more _ _ (by kernel_rfl) (by kernel_rfl) ?_
            repeat (go_big_quiet_step (first
              | (go_at_call 17; exact Calls.in_ext (ratio_any _ _ _))
              | (go_at_call 12; exact Calls.in_ext (back_is s 0 _ ls _ _ _ _ _ _ w1.heap.size (HE.out.ext (Nat.le_refl _) _) (size_ext _ _) rfl h60' ht V4 E4))))
            refine wpQuiet_nil (fun v => ?_)
            go_wp2_with fail
            go_ret
            exact ⟨ret_bool (by simp; try omega), by have hw := HW.out; (repeat (first | with_reducible exact Below.refl _ _ | with_reducible assumption | with_reducible refine Below.alloc0 ?_ _ | with_reducible refine Below.ext0 ?_ _ | with_reducible refine Below.drew ?_ | with_reducible refine below_drewN ?_ _ | (with_reducible refine Below.setCell (hp := ?hp) ?_ _; case hp => (first | (simp; done) | (simp; omega)))))⟩

set_option maxRecDepth 100000 in
theorem priceBack_lifted (os : Os) (started : os.Started) (H : Type) (enc : TypeId × Value → H) :
    ReturnsInHanded {} Try.checked os 7 .any (Rows.priceBackSpec.pre6 enc Try.prog Try.f7 [] false) (Rows.priceBackSpec.post enc Try.prog Try.f7 false true false false) := by
  refine law_lifted (C := Try.checked) own started (by kernel_rfl) Try.func7 rfl (fun ds hds => ?_) (tb := 4) (by kernel_rfl) Try.underlying4 laidOut (fun t ht => ?_)
    (ChangeSpec.witness6 (enc := enc) (C := Try.checked) false ⟨#[], #[.agg #[.slice none 0 0, .int .i64 0], .agg #[.int .i64 0, .int .i64 0]], []⟩ 8 (by kernel_rfl) (by kernel_rfl) (by kernel_rfl) (by kernel_rfl)) ?_
  · rw [Try.params7] at hds
    match ds, hds with
    | [_, _], _ => rfl
  · have := List.all_eq_true.1 (show (Try.f7.params.toList.all fun t => Try.prog.readableRec t && decide (t < Try.prog.types.size)) = true by kernel_rfl) t ht
    simp only [Bool.and_eq_true, decide_eq_true_eq] at this
    exact this
  · intro W args g
    rw [Try.params7] at g
    obtain ⟨v0, q0, e0, g0, h0⟩ := g.cons_inv
    obtain ⟨v1, q1, rfl, g1, h1⟩ := h0.cons_inv
    obtain rfl := h1.nil_inv
    obtain rfl : args = #[v0, v1] := by cases args; simp_all
    obtain ⟨c2, y2, rfl, r2⟩ := g0.agg Try.underlying28 opensBill
    obtain ⟨c3, y3, rfl, r3⟩ := g1.agg Try.underlying23 opensRat
    obtain ⟨A, cap, rfl, b1, b2, b3, b4⟩ := bill_of r2
    obtain ⟨rfl, hnd⟩ := rat_of r3
    exact back_walk A y2.1 cap y2.2 _ _ W b3 (by unfold maxLen at b2; omega) b4 hnd

theorem priceBack_holds : Rows.PriceBackSaid :=
  OpenClaim.holds_of_wide 7 Try.f7 rfl rfl rfl rfl rfl rfl rfl ⟨rfl, rfl, rfl, rfl, rfl⟩ rfl rfl rfl rfl rfl (by kernel_rfl) Try.func7 (by kernel_rfl)
    (of_decide_eq_true (by kernel_rfl)) (by unfold Func.isWrapper; first | (rw [if_pos (by decide +kernel)]; kernel_rfl) | (rw [if_neg (by decide +kernel)]; exact ⟨rfl, rfl⟩))
    (fun os started H enc _ => priceBack_lifted os started H enc)
#print axioms priceBack_holds
end Go.Proofs.Ytdacfopdalgkaaa
