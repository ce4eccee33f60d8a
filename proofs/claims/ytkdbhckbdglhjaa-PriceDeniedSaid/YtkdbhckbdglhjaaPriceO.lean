/- PriceDenied: without Allowed there is no bill, and the error is ErrDenied exactly if there would be no ErrArg with it; for every decision and number; no condition. -/
import Derived.Test.YtkdbhckbdglhjaaPriceM
namespace Go.Proofs.Ytkdbhckbdglhjaa
open Go.RowKit Go.ChangeAt
set_option linter.unusedVariables false
set_option linter.unusedSimpArgs false
attribute [local go_sem] ext_cell ext_frozen lt_ext ext_drew

theorem quoteE_vals (al : Bool) (price fn fd tn td n : Int) : quoteE true price fn fd tn td n = 1 ∧ quoteE false price fn fd tn td n = 1 ∨ quoteE true price fn fd tn td n = 0 ∧ quoteE false price fn fd tn td n = 15 ∨ quoteE true price fn fd tn td n = 2 ∧ quoteE false price fn fd tn td n = 15 := by
  unfold quoteE
  split
  · rw [if_pos rfl]
    split
    · exact .inr (.inl ⟨rfl, rfl⟩)
    · exact .inr (.inr ⟨rfl, rfl⟩)
  · exact .inl ⟨rfl, rfl⟩

set_option maxRecDepth 100000 in
set_option maxHeartbeats 2000000 in
theorem denied_walk (al to si : Bool) (lim price fn fd tn td cn cd sn sd rn rd y n : Int) (w : World) (e1 e2 : Int) (hv : (e1 = 1 ∧ e2 = 1) ∨ (e1 = 0 ∧ e2 = 15) ∨ (e1 = 2 ∧ e2 = 15)) (H1 : Hid (quoteE true price fn fd tn td n = e1)) (H2 : Hid (quoteE false price fn fd tn td n = e2)) :
    Calls Try.prog 9 #[.agg (decCells al to si lim price fn fd tn td cn cd sn sd rn rd y), .int .i64 n] w fun e w' => e = .returned (.bool true) ∧ Below w.heap.size w w' := by
  unfold decCells
  obtain ⟨L1, hL1⟩ : ∃ x, quoteL true price fn fd tn td n = x := ⟨_, rfl⟩
  have HL1 := Lib.hid hL1
  have HL2 : Hid (quoteL false price fn fd tn td n = []) := quoteL_err H2.out (by omega)
  clear hL1
  go_enter Try.func9, Try.ntmps9
  go_wp2_with fail
  refine (head_any _).mono ?_
  rintro e w1 ⟨rfl, hb⟩
  have HB := Lib.hid (And.intro (Below.trans0 (below_self w _) hb) ((Bk.new w #[.bool al, .bool to, .bool si, .int .i64 lim, .int .i64 price, .int .i64 fn, .int .i64 fd, .int .i64 tn, .int .i64 td, .int .i64 cn, .int .i64 cd, .int .i64 sn, .int .i64 sd, .int .i64 rn, .int .i64 rd, .int .i64 y] 25).below hb))
  clear hb
  have c1 := HB.out.2.cell
  have f1 := HB.out.2.free
  have l1 := HB.out.2.lt
  go_wp2_with fail
  refine (quote_is e1 L1 _ _ _ _ _ _ _ _ _ _ _ _ _ _ _ _ _ _ H1 HL1).mono ?_
  rintro e w2 ⟨A1, k1, rfl, _, _, _, _, hb⟩
  have HX := Lib.hid (And.intro (Below.trans0 (HB.out.1.setCell (p := ⟨w.heap.size, 0, none⟩) (Nat.le_refl _) (.bool true)) hb) ((HB.out.2.set_ 0 (.bool true)).below hb))
  clear hb HB c1 f1 l1
  have c1 := HX.out.2.cell
  have f1 := HX.out.2.free
  have l1 := HX.out.2.lt
  go_wp2_with fail
  refine (quote_is e2 [] _ _ _ _ _ _ _ _ _ _ _ _ _ _ _ _ _ _ H2 HL2).mono ?_
  rintro e w3 ⟨A2, k2, rfl, _, _, _, _, hb⟩
  have hw3 : Hid (Below w.heap.size w w3) := by
    have h1 : Below w.heap.size w (w2.alloc (.cells #[.slice A1 L1.length k1, .int .i64 (sumOf L1)] 28)) := Below.alloc0 HX.out.1 _
    first
      | exact Below.trans0 (h1.setCell (p := ⟨w.heap.size, 0, none⟩) (Nat.le_refl _) (.bool false)) hb
      | exact Below.trans0 (Below.alloc0 (HX.out.1.setCell (p := ⟨w.heap.size, 0, none⟩) (Nat.le_refl _) (.bool false)) _) hb
  clear hb HX c1 f1 l1 H1 H2
  have es : sumOf [] = 0 := rfl
  rcases hv with ⟨rfl, rfl⟩ | ⟨rfl, rfl⟩ | ⟨rfl, rfl⟩
  all_goals
    go_wp2_with fail
    go_ret
    exact ⟨rfl, by have hw := hw3.out; (repeat (first | with_reducible exact Below.refl _ _ | with_reducible assumption | with_reducible refine Below.alloc0 ?_ _ | with_reducible refine Below.ext0 ?_ _ | with_reducible refine Below.drew ?_ | with_reducible refine below_drewN ?_ _ | (with_reducible refine Below.setCell (hp := ?hp) ?_ _; case hp => (first | (simp; done) | (simp; omega)))))⟩

set_option maxRecDepth 100000 in
theorem priceDenied_lifted (os : Os) (started : os.Started) (H : Type) (enc : TypeId × Value → H) :
    ReturnsInHanded {} Try.checked os 9 .any (Rows.priceDeniedSpec.pre6 enc Try.prog Try.f9 [] false) (Rows.priceDeniedSpec.post enc Try.prog Try.f9 false true false false) := by
  refine law_lifted (C := Try.checked) own started (by kernel_rfl) Try.func9 rfl (fun ds hds => ?_) (tb := 4) (by kernel_rfl) Try.underlying4 laidOut (fun t ht => ?_)
    (ChangeSpec.witness6 (enc := enc) (C := Try.checked) false ⟨#[], #[.agg #[.bool false, .bool false, .bool false, .int .i64 0, .int .i64 0, .int .i64 0, .int .i64 0, .int .i64 0, .int .i64 0, .int .i64 0, .int .i64 0, .int .i64 0, .int .i64 0, .int .i64 0, .int .i64 0, .int .i64 0], .int .i64 0], []⟩ 8 (by kernel_rfl) (by kernel_rfl) (by kernel_rfl) (by kernel_rfl)) ?_
  · rw [Try.params9] at hds
    match ds, hds with
    | [_, _], _ => rfl
  · have := List.all_eq_true.1 (show (Try.f9.params.toList.all fun t => Try.prog.readableRec t && decide (t < Try.prog.types.size)) = true by kernel_rfl) t ht
    simp only [Bool.and_eq_true, decide_eq_true_eq] at this
    exact this
  · intro W args g
    rw [Try.params9] at g
    obtain ⟨v0, q0, e0, g0, h0⟩ := g.cons_inv
    obtain ⟨v1, q1, rfl, g1, h1⟩ := h0.cons_inv
    obtain rfl := h1.nil_inv
    obtain rfl : args = #[v0, v1] := by cases args; simp_all
    obtain ⟨c0, y0, rfl, r0⟩ := g0.agg Try.underlying25 opensDec
    obtain ⟨n, rfl, x1⟩ := g1.int Try.underlying3 (by kernel_rfl)
    obtain ⟨al, to, si, lim, price, fn, fd, tn, td, cn, cd, sn, sd, rn, rd, y, rfl, _⟩ := dec_of r0
    exact denied_walk al to si lim price fn fd tn td cn cd sn sd rn rd y n W _ _ (quoteE_vals al price fn fd tn td n) (Lib.hid rfl) (Lib.hid rfl)

theorem priceDenied_holds : Rows.PriceDeniedSaid :=
  OpenClaim.holds_of_wide 9 Try.f9 rfl rfl rfl rfl rfl rfl rfl ⟨rfl, rfl, rfl, rfl, rfl⟩ rfl rfl rfl rfl rfl (by kernel_rfl) Try.func9 (by kernel_rfl)
    (of_decide_eq_true (by kernel_rfl)) (by unfold Func.isWrapper; first | (rw [if_pos (by decide +kernel)]; kernel_rfl) | (rw [if_neg (by decide +kernel)]; exact ⟨rfl, rfl⟩))
    (fun os started H enc _ => priceDenied_lifted os started H enc)
#print axioms priceDenied_holds
end Go.Proofs.Ytkdbhckbdglhjaa
