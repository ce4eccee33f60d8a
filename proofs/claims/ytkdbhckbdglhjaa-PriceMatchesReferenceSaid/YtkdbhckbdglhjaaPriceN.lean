/- PriceMatchesReference: all functions agree with the reference, for every decision, number, bill and ratio; no condition. -/
import Derived.Test.YtkdbhckbdglhjaaPriceM
namespace Go.Proofs.Ytkdbhckbdglhjaa
open Go.RowKit Go.ChangeAt
set_option linter.unusedVariables false
set_option linter.unusedSimpArgs false
attribute [local go_sem] ext_cell ext_frozen lt_ext ext_drew

set_option maxRecDepth 100000 in
set_option maxHeartbeats 2000000 in
theorem matches_walk (al to si : Bool) (lim price fn fd tn td cn cd sn sd rn rd y n : Int) (A : Option Addr) (ls : List Ln) (cap : Nat) (total num den : Int) (w : World) (h : Elems tLine w w.heap.size A ls) (hm : ls.length ≤ 9223372036854775807) (ht : fits total) :
    Calls Try.prog 3 #[.agg (decCells al to si lim price fn fd tn td cn cd sn sd rn rd y), .int .i64 n, .agg #[.slice A ls.length cap, .int .i64 total], .agg #[.int .i64 num, .int .i64 den]] w fun e w' => e = .returned (.bool true) ∧ Below w.heap.size w w' := by
  unfold decCells
  have H := Lib.hid h
  clear h
  go_enter Try.func3, Try.ntmps3
  go_wp2_with fail
  refine (head_any _).mono ?_
  rintro e w1 ⟨rfl, hb⟩
  have b1 := (((Bk.new w #[.bool al, .bool to, .bool si, .int .i64 lim, .int .i64 price, .int .i64 fn, .int .i64 fd, .int .i64 tn, .int .i64 td, .int .i64 cn, .int .i64 cd, .int .i64 sn, .int .i64 sd, .int .i64 rn, .int .i64 rd, .int .i64 y] 25).alloc (.cells #[.slice A ls.length cap, .int .i64 total] 28)).alloc (.cells #[.int .i64 num, .int .i64 den] 23)).below hb
  have b2 := ((bk_next w (.cells #[.bool al, .bool to, .bool si, .int .i64 lim, .int .i64 price, .int .i64 fn, .int .i64 fd, .int .i64 tn, .int .i64 td, .int .i64 cn, .int .i64 cd, .int .i64 sn, .int .i64 sd, .int .i64 rn, .int .i64 rd, .int .i64 y] 25) #[.slice A ls.length cap, .int .i64 total] 28).alloc (.cells #[.int .i64 num, .int .i64 den] 23)).below hb
  have b3 := (bk_new_at ((w.alloc (.cells #[.bool al, .bool to, .bool si, .int .i64 lim, .int .i64 price, .int .i64 fn, .int .i64 fd, .int .i64 tn, .int .i64 td, .int .i64 cn, .int .i64 cd, .int .i64 sn, .int .i64 sd, .int .i64 rn, .int .i64 rd, .int .i64 y] 25)).alloc (.cells #[.slice A ls.length cap, .int .i64 total] 28)) (w.heap.size + 1 + 1) #[.int .i64 num, .int .i64 den] 23 (by simp)).below hb
  have hw1 : Below w.heap.size w w1 := Below.trans0 (Below.alloc0 (Below.alloc0 (below_self w _) _) _) hb
  have HB := Lib.hid (And.intro hw1 (And.intro b1 (And.intro b2 b3)))
  have c2 := b2.cell
  have l2 := b2.lt
  have c1 := b1.cell
  have l1 := b1.lt
  clear hb b1 b2 b3 hw1
  by_cases h60 : 60 < (ls.length : Int)
  · go_wp2_with fail
    go_ret
    exact ⟨rfl, HB.out.1⟩
  · obtain ⟨er, her⟩ : ∃ x, quoteE al price fn fd tn td n = x := ⟨_, rfl⟩
    obtain ⟨L, hL⟩ : ∃ x, quoteL al price fn fd tn td n = x := ⟨_, rfl⟩
    have hL3 := quoteL_len al price fn fd tn td n
    rw [hL] at hL3
    have Her := Lib.hid her
    have HL := Lib.hid hL
    clear her hL
    go_wp2_with fail
    refine (quote_is er L _ _ _ _ _ _ _ _ _ _ _ _ _ _ _ _ _ _ Her HL).mono ?_
    rintro e w2 ⟨A1, k1, rfl, hE1, _, _, _, hb⟩
    have HX := Lib.hid (And.intro (HB.out.1.trans (hb.mono HB.out.1.size)) (And.intro (HB.out.2.1.below hb) (And.intro (HB.out.2.2.1.below hb) (And.intro (HB.out.2.2.2.below hb) hE1))))
    clear hb hE1 HB c1 c2 l1 l2
    have c1 := HX.out.2.1.cell
    have l1 := HX.out.2.1.lt
    go_wp2_with fail
    refine (rquote_is er L _ _ _ _ _ _ _ _ _ _ _ _ _ _ _ _ _ _ Her HL).mono ?_
    rintro e w3 ⟨A2, k2, rfl, hE2, _, _, _, hb⟩
    have hb' : Below w2.heap.size w2 w3 := Below.trans0 (below_self _ _) hb
    have HY := Lib.hid (And.intro (HX.out.1.trans (hb'.mono HX.out.1.size)) (And.intro (HX.out.2.2.1.below hb') (And.intro (HX.out.2.2.2.1.below hb') (And.intro (HX.out.2.2.2.2.keep hb' hb'.size) (And.intro hE2 ((Bk.new w2 #[.slice A1 L.length k1, .int .i64 (sumOf L)] 28).below hb))))))
    clear hb hb' hE2 HX c1 l1
    generalize w2.heap.size = x at *
    go_upto_region 6 with (fail)
    refine forget (fun W => Below w.heap.size w W ∧ Bk W (w.heap.size + 1) #[.slice A ls.length cap, .int .i64 total] 28 ∧ Bk W (w.heap.size + 1 + 1) #[.int .i64 num, .int .i64 den] 23 ∧ Elems tLine W W.heap.size A1 L ∧ Elems tLine W W.heap.size A2 L ∧
      Bk W x #[.slice A1 L.length k1, .int .i64 (sumOf L)] 28 ∧ Bk W w3.heap.size #[.slice A2 L.length k2, .int .i64 (sumOf L)] 28) ⟨?_, ?_, ?_, ?_, ?_, ?_, ?_⟩ ?_
    · have hw := HY.out.1; (repeat (first | with_reducible exact Below.refl _ _ | with_reducible assumption | with_reducible refine Below.alloc0 ?_ _ | with_reducible refine Below.ext0 ?_ _ | with_reducible refine Below.drew ?_ | with_reducible refine below_drewN ?_ _ | (with_reducible refine Below.setCell (hp := ?hp) ?_ _; case hp => (first | (simp; done) | (simp; omega)))))
    · exact HY.out.2.1.alloc _
    · exact HY.out.2.2.1.alloc _
    · exact HY.out.2.2.2.1.keep (below_self _ _) (by simp)
    · exact HY.out.2.2.2.2.1.keep (below_self _ _) (by simp)
    · exact HY.out.2.2.2.2.2.alloc _
    · exact Bk.new _ _ _
    generalize w3.heap.size = z
    clear HY
    rintro W ⟨hw, b2, b3, hE1, hE2, bx, by_⟩
    have hE := H.out.keep hw hw.size
    have c2 := b2.cell
    have l2 := b2.lt
    have c3 := b3.cell
    have l3 := b3.lt
    have cx := bx.cell
    have lx := bx.lt
    have cy := by_.cell
    have ly := by_.lt
    have HE := Lib.hid (And.intro hE (And.intro hE1 hE2))
    have HW := Lib.hid hw
    clear hw b2 b3 hE1 hE2 bx by_ hE H
    obtain ⟨bv, hbv⟩ : ∃ x, backV 0 ls total num den = x := ⟨_, rfl⟩
    obtain ⟨be, hbe⟩ : ∃ x, backE 0 ls total num den = x := ⟨_, rfl⟩
    obtain ⟨tv, htv⟩ : ∃ x, backV 1 ls total num den = x := ⟨_, rfl⟩
    obtain ⟨te, hte⟩ : ∃ x, backE 1 ls total num den = x := ⟨_, rfl⟩
    have Hbv := Lib.hid hbv
    have Hbe := Lib.hid hbe
    have Htv := Lib.hid htv
    have Hte := Lib.hid hte
    clear hbv hbe htv hte
    have h60' : ls.length ≤ 60 := by omega
    go_wp2_with (first
      | (go_at_call 13; refine (back_is bv be _ ls _ _ _ _ _ _ W.heap.size (by first | exact HE.out.1 | exact HE.out.1.ext (Nat.le_refl _) _) (by first | exact Nat.le_refl _ | exact size_ext _ _) rfl h60' ht Hbv Hbe).mono ?_; rintro e w' ⟨rfl, hb⟩; (first | (obtain ⟨u, rfl⟩ := ext_more hb; clear hb) | (obtain ⟨u, rfl⟩ := ext_more_alloc hb; clear hb) | (obtain ⟨u, rfl⟩ := ext_of hb; clear hb)))
      | (go_at_call 14; refine (rback_is bv be _ ls _ _ _ _ _ _ W.heap.size (by first | exact HE.out.1 | exact HE.out.1.ext (Nat.le_refl _) _) (by first | exact Nat.le_refl _ | exact size_ext _ _) rfl h60' ht Hbv Hbe).mono ?_; rintro e w' ⟨rfl, hb⟩; (first | (obtain ⟨u, rfl⟩ := ext_more hb; clear hb) | (obtain ⟨u, rfl⟩ := ext_more_alloc hb; clear hb) | (obtain ⟨u, rfl⟩ := ext_of hb; clear hb)))
      | (go_at_call 15; refine (top_is tv te _ ls _ _ _ _ _ _ W.heap.size (by first | exact HE.out.1 | exact HE.out.1.ext (Nat.le_refl _) _) (by first | exact Nat.le_refl _ | exact size_ext _ _) rfl h60' ht Htv Hte).mono ?_; rintro e w' ⟨rfl, hb⟩; (first | (obtain ⟨u, rfl⟩ := ext_more hb; clear hb) | (obtain ⟨u, rfl⟩ := ext_more_alloc hb; clear hb) | (obtain ⟨u, rfl⟩ := ext_of hb; clear hb)))
      | (go_at_call 16; refine (rtop_is tv te _ ls _ _ _ _ _ _ W.heap.size (by first | exact HE.out.1 | exact HE.out.1.ext (Nat.le_refl _) _) (by first | exact Nat.le_refl _ | exact size_ext _ _) rfl h60' ht Htv Hte).mono ?_; rintro e w' ⟨rfl, hb⟩; (first | (obtain ⟨u, rfl⟩ := ext_more hb; clear hb) | (obtain ⟨u, rfl⟩ := ext_more_alloc hb; clear hb) | (obtain ⟨u, rfl⟩ := ext_of hb; clear hb)))
      | (go_at_call 17; refine (same_yes _ _ L _ _ _ _ _ W.heap.size (HE.out.2.1.ext (Nat.le_refl _) _) (HE.out.2.2.ext (Nat.le_refl _) _) (size_ext _ _) rfl (by omega)).mono ?_; rintro e w' ⟨rfl, hb⟩; (first | (obtain ⟨u, rfl⟩ := ext_more hb; clear hb) | (obtain ⟨u, rfl⟩ := ext_more_alloc hb; clear hb) | (obtain ⟨u, rfl⟩ := ext_of hb; clear hb))))
    go_ret
    exact ⟨rfl, by have hw := HW.out; (repeat (first | with_reducible exact Below.refl _ _ | with_reducible assumption | with_reducible refine Below.alloc0 ?_ _ | with_reducible refine Below.ext0 ?_ _ | with_reducible refine Below.drew ?_ | with_reducible refine below_drewN ?_ _ | (with_reducible refine Below.setCell (hp := ?hp) ?_ _; case hp => (first | (simp; done) | (simp; omega)))))⟩

set_option maxRecDepth 100000 in
theorem priceMatchesReference_lifted (os : Os) (started : os.Started) (H : Type) (enc : TypeId × Value → H) :
    ReturnsInHanded {} Try.checked os 3 .any (Rows.priceMatchesReferenceSpec.pre6 enc Try.prog Try.f3 [] false) (Rows.priceMatchesReferenceSpec.post enc Try.prog Try.f3 false true false false) := by
  refine law_lifted (C := Try.checked) own started (by kernel_rfl) Try.func3 rfl (fun ds hds => ?_) (tb := 4) (by kernel_rfl) Try.underlying4 laidOut (fun t ht => ?_)
    (ChangeSpec.witness6 (enc := enc) (C := Try.checked) false ⟨#[], #[.agg #[.bool false, .bool false, .bool false, .int .i64 0, .int .i64 0, .int .i64 0, .int .i64 0, .int .i64 0, .int .i64 0, .int .i64 0, .int .i64 0, .int .i64 0, .int .i64 0, .int .i64 0, .int .i64 0, .int .i64 0], .int .i64 0, .agg #[.slice none 0 0, .int .i64 0], .agg #[.int .i64 0, .int .i64 0]], []⟩ 8 (by kernel_rfl) (by kernel_rfl) (by kernel_rfl) (by kernel_rfl)) ?_
  · rw [Try.params3] at hds
    match ds, hds with
    | [_, _, _, _], _ => rfl
  · have := List.all_eq_true.1 (show (Try.f3.params.toList.all fun t => Try.prog.readableRec t && decide (t < Try.prog.types.size)) = true by kernel_rfl) t ht
    simp only [Bool.and_eq_true, decide_eq_true_eq] at this
    exact this
  · intro W args g
    rw [Try.params3] at g
    obtain ⟨v0, q0, e0, g0, h0⟩ := g.cons_inv
    obtain ⟨v1, q1, rfl, g1, h1⟩ := h0.cons_inv
    obtain ⟨v2, q2, rfl, g2, h2⟩ := h1.cons_inv
    obtain ⟨v3, q3, rfl, g3, h3⟩ := h2.cons_inv
    obtain rfl := h3.nil_inv
    obtain rfl : args = #[v0, v1, v2, v3] := by cases args; simp_all
    obtain ⟨c0, y0, rfl, r0⟩ := g0.agg Try.underlying25 opensDec
    obtain ⟨n, rfl, x1⟩ := g1.int Try.underlying3 (by kernel_rfl)
    obtain ⟨c2, y2, rfl, r2⟩ := g2.agg Try.underlying28 opensBill
    obtain ⟨c3, y3, rfl, r3⟩ := g3.agg Try.underlying23 opensRat
    obtain ⟨al, to, si, lim, price, fn, fd, tn, td, cn, cd, sn, sd, rn, rd, y, rfl, _⟩ := dec_of r0
    obtain ⟨A, cap, rfl, b1, b2, b3, b4⟩ := bill_of r2
    obtain ⟨rfl, _⟩ := rat_of r3
    exact matches_walk al to si lim price fn fd tn td cn cd sn sd rn rd y n A y2.1 cap y2.2 _ _ W b3 (by unfold maxLen at b2; omega) b4

theorem priceMatchesReference_holds : Rows.PriceMatchesReferenceSaid :=
  OpenClaim.holds_of_wide 3 Try.f3 rfl rfl rfl rfl rfl rfl rfl ⟨rfl, rfl, rfl, rfl, rfl⟩ rfl rfl rfl rfl rfl (by kernel_rfl) Try.func3 (by kernel_rfl)
    (of_decide_eq_true (by kernel_rfl)) (by unfold Func.isWrapper; first | (rw [if_pos (by decide +kernel)]; kernel_rfl) | (rw [if_neg (by decide +kernel)]; exact ⟨rfl, rfl⟩))
    (fun os started H enc _ => priceMatchesReference_lifted os started H enc)
#print axioms priceMatchesReference_holds
end Go.Proofs.Ytkdbhckbdglhjaa
