/- PriceSums: what Quote returns without an error has a line of each kind, in order, and their sum as its total, and is a bill that Back and Top accept; for every decision and number; no condition. -/
import Derived.Test.YtdacfopdalgkaaaPriceM
namespace Go.Proofs.Ytdacfopdalgkaaa
open Go.RowKit Go.ChangeAt
set_option linter.unusedVariables false
set_option linter.unusedSimpArgs false
attribute [local go_sem] ext_cell ext_frozen lt_ext ext_drew

/-- What is known of a bill that was made. -/
theorem quote_good {al : Bool} {price fn fd tn td n : Int} (h : quoteE al price fn fd tn td n = 0) :
    al = true ∧ (1 ≤ n ∧ n ≤ 12) ∧ (0 ≤ price ∧ price ≤ 1000000000) ∧ ratioB fn fd = true ∧ ratioB tn td = true ∧ ∃ F r1 r2, n * price = F ∧ roundP (F * fn) fd = r1 ∧ roundP ((F + r1) * tn) td = r2 ∧ quoteL al price fn fd tn td n = [(1, F), (2, r1), (3, r2)] ∧ 0 ≤ F ∧ 0 ≤ r1 ∧ 0 ≤ r2 ∧ F + r1 + r2 ≤ 1000000000 := by
  have h0 := h
  unfold quoteE at h
  split at h
  · rename_i hc
    simp only [Bool.and_eq_true, decide_eq_true_eq] at hc
    obtain ⟨⟨⟨⟨⟨c1, c2⟩, c3⟩, c4⟩, c5⟩, c6⟩ := hc
    split at h
    · rename_i hal
      split at h
      · rename_i hv
        simp only [Bool.and_eq_true] at hv
        obtain ⟨⟨⟨⟨v1, v2⟩, v3⟩, v4⟩, v5⟩ := hv
        have hf := ratioB_out c5
        have ht := ratioB_out c6
        have hF : 0 ≤ n * price := Int.mul_nonneg (by omega) (by omega)
        have hr1 : 0 ≤ roundP (n * price * fn) fd := round_nonneg (by omega) (Int.mul_nonneg hF (by omega))
        have hr2 : 0 ≤ roundP ((n * price + roundP (n * price * fn) fd) * tn) td := round_nonneg (by omega) (Int.mul_nonneg (by omega) (by omega))
        have hv5 := validB_out v5
        refine ⟨hal, ⟨c1, c2⟩, ⟨c3, c4⟩, c5, c6, _, _, _, rfl, rfl, rfl, ?_, hF, hr1, hr2, hv5.2⟩
        unfold quoteL
        rw [if_pos h0]
        rfl
      · cases h
    · cases h
  · cases h

theorem three_right {F r1 r2 : Int} (h1 : 0 ≤ F) (h2 : 0 ≤ r1) (h3 : 0 ≤ r2) (h4 : F + r1 + r2 ≤ 1000000000) : rightB [(1, F), (2, r1), (3, r2)] (F + r1 + r2) = true ∧ backE 0 [(1, F), (2, r1), (3, r2)] (F + r1 + r2) 1 1 = 0 ∧ backE 1 [(1, F), (2, r1), (3, r2)] (F + r1 + r2) 1 1 = 0 := by
  have hr : rightB [(1, F), (2, r1), (3, r2)] (F + r1 + r2) = true := by
    simp [rightB, lineB, sumOf]; omega
  have key : ∀ t : Int, 0 ≤ t → t ≤ 1000000000 → shareE t 1 1 = 0 := fun t a b => by
    unfold shareE
    rw [validB_in (by omega), round_whole t 1 (by omega), validB_in (by omega)]
    rfl
  refine ⟨hr, ?_, ?_⟩
  · unfold backE
    rw [if_pos hr]
    have e : partOf 0 [(1, F), (2, r1), (3, r2)] = F + (r1 + r2) := by simp [partOf, pickB, sumOf]
    rw [e]
    exact key _ (by omega) (by omega)
  · unfold backE
    rw [if_pos hr]
    have e : partOf 1 [(1, F), (2, r1), (3, r2)] = F := by simp [partOf, pickB, sumOf]
    rw [e]
    exact key _ (by omega) (by omega)

/-- A bill of three lines at hand, cell by cell. -/
theorem three_cells {w : World} {B : Nat} {A : Option Addr} {F r1 r2 : Int} (h : Elems tLine w B A [(1, F), (2, r1), (3, r2)]) : ∃ b off, A = some ⟨b, off, none⟩ ∧ b < B ∧ w.cell? ⟨b, off, none⟩ = some (.int .i64 1) ∧ w.cell? ⟨b, off + 1, none⟩ = some (.int .i64 F) ∧
    w.cell? ⟨b, off + 2, none⟩ = some (.int .i64 2) ∧ w.cell? ⟨b, off + 3, none⟩ = some (.int .i64 r1) ∧ w.cell? ⟨b, off + 4, none⟩ = some (.int .i64 3) ∧ w.cell? ⟨b, off + 5, none⟩ = some (.int .i64 r2) ∧ fits F ∧ fits r1 ∧ fits r2 := by
  obtain ⟨b, off, k0, a0, hA, hb, H0, c0, c1, f0, f1⟩ := pick_line h (k := 0) (by simp)
  obtain ⟨b', off', k1, a1, hA', _, H1, c2, c3, f2, f3⟩ := pick_line h (k := 1) (by simp)
  obtain ⟨b'', off'', k2, a2, hA'', _, H2, c4, c5, f4, f5⟩ := pick_line h (k := 2) (by simp)
  rw [hA] at hA' hA''
  simp only [Option.some.injEq, Addr.mk.injEq, and_true] at hA' hA''
  obtain ⟨rfl, rfl⟩ := hA'
  obtain ⟨rfl, rfl⟩ := hA''
  have h0 := H0.out
  have h1 := H1.out
  have h2 := H2.out
  simp only [List.getElem?_cons_zero, List.getElem?_cons_succ, Option.some.injEq, Prod.mk.injEq] at h0 h1 h2
  obtain ⟨rfl, rfl⟩ := h0
  obtain ⟨rfl, rfl⟩ := h1
  obtain ⟨rfl, rfl⟩ := h2
  exact ⟨b, off, hA, hb, by simpa using c0, by simpa using c1, c2, c3, c4, c5, f1, f3, f5⟩

set_option maxRecDepth 100000 in
set_option maxHeartbeats 2000000 in
theorem sums_walk (al to si : Bool) (lim price fn fd tn td cn cd sn sd rn rd y n : Int) (w : World) :
    Calls Try.prog 4 #[.agg (decCells al to si lim price fn fd tn td cn cd sn sd rn rd y), .int .i64 n] w fun e w' => e = .returned (.bool true) ∧ Below w.heap.size w w' := by
  unfold decCells
  obtain ⟨er, her⟩ : ∃ x, quoteE al price fn fd tn td n = x := ⟨_, rfl⟩
  obtain ⟨L, hL⟩ : ∃ x, quoteL al price fn fd tn td n = x := ⟨_, rfl⟩
  have Her := Lib.hid her
  have HL := Lib.hid hL
  clear her hL
  go_enter Try.func4, Try.ntmps4
  go_wp2_with fail
  refine (head_any _).mono ?_
  rintro e w1 ⟨rfl, hb⟩
  have HB := Lib.hid (And.intro (Below.trans0 (below_self w _) hb) ((Bk.new w #[.bool al, .bool to, .bool si, .int .i64 lim, .int .i64 price, .int .i64 fn, .int .i64 fd, .int .i64 tn, .int .i64 td, .int .i64 cn, .int .i64 cd, .int .i64 sn, .int .i64 sd, .int .i64 rn, .int .i64 rd, .int .i64 y] 25).below hb))
  clear hb
  have c1 := HB.out.2.cell
  have l1 := HB.out.2.lt
  go_wp2_with fail
  refine (quote_is er L _ _ _ _ _ _ _ _ _ _ _ _ _ _ _ _ _ _ Her HL).mono ?_
  rintro e w2 ⟨A1, k1, rfl, hE, hk1, hk2, _, hb⟩
  have HX := Lib.hid (And.intro (Below.trans0 HB.out.1 hb) (And.intro (HB.out.2.below hb) hE))
  clear hb HB c1 l1 hE
  by_cases he : er = 0
  · subst he
    obtain ⟨_, ⟨n1, n2⟩, ⟨p1, p2⟩, _, _, F, r1, r2, hF, _, _, hL, f0, f1, f2, f3⟩ := quote_good Her.out
    obtain rfl : L = [(1, F), (2, r1), (3, r2)] := HL.out.symm.trans hL
    have HF := Lib.hid hF
    clear hF hL Her HL
    obtain ⟨hr, hb0, hb1⟩ := three_right f0 f1 f2 f3
    have es : sumOf [(1, F), (2, r1), (3, r2)] = F + r1 + r2 := by simp [sumOf]; omega
    rw [es]
    obtain ⟨b, off, rfl, hbl, d0, d1, d2, d3, d4, d5, _⟩ := three_cells HX.out.2.2
    have cD := HX.out.2.1.cell
    have lD := HX.out.2.1.lt
    simp only [List.length_cons, List.length_nil, Nat.zero_add, Nat.reduceAdd] at hk1
    have H0 := Lib.hid hb0
    have H1 := Lib.hid hb1
    clear es hr hb0 hb1
    go_wp2_with fail
    go_loop [8, 9] (fun s i => ∃ k : Nat, k ≤ 3 ∧ i = .int .i64 k ∧ s = .int .i64 (if k = 0 then 0 else if k = 1 then F else if k = 2 then F + r1 else F + r1 + r2)) (fun _ i => 3 - (intOf i).toNat)
    case atStart => exact ⟨0, by omega, rfl, rfl⟩
    case round =>
      obtain ⟨k, hk, rfl, rfl⟩ := hrel
      by_cases h3 : k = 3
      · subst h3
        simp only [if_neg (by omega : ¬ (3 = 0)), if_neg (by omega : ¬ (3 = 1)), if_neg (by omega : ¬ (3 = 2))]
        go_wp2_with fail
        have hE2 : Elems tLine (w2.alloc (.cells #[.slice (some ⟨b, off, none⟩) 3 k1, .int .i64 (F + r1 + r2)] 28)) w2.heap.size (some ⟨b, off, none⟩) [(1, F), (2, r1), (3, r2)] := HX.out.2.2.keep (below_self _ _) (Nat.le_refl _)
        refine forget (fun W => Below w.heap.size w W ∧ Bk W w.heap.size #[.bool al, .bool to, .bool si, .int .i64 lim, .int .i64 price, .int .i64 fn, .int .i64 fd, .int .i64 tn, .int .i64 td, .int .i64 cn, .int .i64 cd, .int .i64 sn, .int .i64 sd, .int .i64 rn, .int .i64 rd, .int .i64 y] 25 ∧ Bk W w2.heap.size #[.slice (some ⟨b, off, none⟩) 3 k1, .int .i64 (F + r1 + r2)] 28 ∧ Elems tLine W W.heap.size (some ⟨b, off, none⟩) [(1, F), (2, r1), (3, r2)] ∧ b < W.heap.size) ⟨?_, ?_, ?_, ?_, ?_⟩ ?_
        · have hw := HX.out.1; (repeat (first | with_reducible exact Below.refl _ _ | with_reducible assumption | with_reducible refine Below.alloc0 ?_ _ | with_reducible refine Below.ext0 ?_ _ | with_reducible refine Below.drew ?_ | with_reducible refine below_drewN ?_ _ | (with_reducible refine Below.setCell (hp := ?hp) ?_ _; case hp => (first | (simp; done) | (simp; omega)))))
        · exact HX.out.2.1.alloc _
        · exact Bk.new _ _ _
        · exact HX.out.2.2.keep (below_self _ _) (by simp)
        · simp; omega
        clear cD lD d0 d1 d2 d3 d4 d5 hE2
        generalize w2.heap.size = x at *
        rintro W ⟨hw, bD, bX, hE, hbW⟩
        obtain ⟨b', off', hA, _, d0, d1, d2, d3, d4, d5, _⟩ := three_cells hE
        simp only [Option.some.injEq, Addr.mk.injEq, and_true] at hA
        obtain ⟨rfl, rfl⟩ := hA
        have cD := bD.cell
        have lD := bD.lt
        have cX := bX.cell
        have lX := bX.lt
        have HE := Lib.hid hE
        have HW := Lib.hid hw
        have HF2 : Hid (n * price ≤ 12000000000) := Int.mul_le_mul (c := 12) n2 p2 p1 (by omega)
        have ef := HF.out
        clear hE hw bD bX HX
        refine wp_region_ext _ (by kernel_rfl) (by kernel_rfl) ?_
        repeat (go_big_quiet_step (first
          | (go_at_call 17; exact Calls.in_ext (ratio_any _ _ _))
          | (go_at_call 12; exact Calls.in_ext (back_is _ 0 _ _ _ _ _ _ _ _ W.heap.size (HE.out.ext (Nat.le_refl _) _) (size_ext _ _) rfl (by simp) (by unfold fits; omega) (Lib.hid rfl) H0))))
        refine wpQuiet_nil (fun v => ?_)
        go_wp2_with fail
        refine wp_region_more _ _ (by kernel_rfl) (by kernel_rfl) ?_
        repeat (go_big_quiet_step (first
          | (go_at_call 17; exact Calls.in_ext (ratio_any _ _ _))
          | (go_at_call 14; exact Calls.in_ext (top_is _ 0 _ _ _ _ _ _ _ _ W.heap.size (HE.out.ext (Nat.le_refl _) _) (size_ext _ _) rfl (by simp) (by unfold fits; omega) (Lib.hid rfl) H1))))
        refine wpQuiet_nil (fun v => ?_)
        go_wp2_with fail
        refine wp_region_more _ _ (by kernel_rfl) (by kernel_rfl) ?_
        repeat (go_big_quiet_step (fail))
        refine wpQuiet_nil (fun v => ?_)
        go_wp2_with fail
        go_ret
        exact ⟨rfl, by have hw := HW.out; (repeat (first | with_reducible exact Below.refl _ _ | with_reducible assumption | with_reducible refine Below.alloc0 ?_ _ | with_reducible refine Below.ext0 ?_ _ | with_reducible refine Below.drew ?_ | with_reducible refine below_drewN ?_ _ | (with_reducible refine Below.setCell (hp := ?hp) ?_ _; case hp => (first | (simp; done) | (simp; omega)))))⟩
      · rcases (show k = 0 ∨ k = 1 ∨ k = 2 by omega) with rfl | rfl | rfl
        all_goals
          go_wp2_with fail
          go_round
          case rel => first | exact ⟨1, by omega, rfl, rfl⟩ | exact ⟨2, by omega, rfl, rfl⟩ | exact ⟨3, by omega, rfl, rfl⟩
          case measure => decide
  · obtain rfl : L = [] := HL.out.symm.trans (quoteL_err Her.out he)
    go_wp2_with fail
    go_ret
    exact ⟨rfl, by have hw := HX.out.1; (repeat (first | with_reducible exact Below.refl _ _ | with_reducible assumption | with_reducible refine Below.alloc0 ?_ _ | with_reducible refine Below.ext0 ?_ _ | with_reducible refine Below.drew ?_ | with_reducible refine below_drewN ?_ _ | (with_reducible refine Below.setCell (hp := ?hp) ?_ _; case hp => (first | (simp; done) | (simp; omega)))))⟩

set_option maxRecDepth 100000 in
theorem priceSums_lifted (os : Os) (started : os.Started) (H : Type) (enc : TypeId × Value → H) :
    ReturnsInHanded {} Try.checked os 4 .any (Rows.priceSumsSpec.pre6 enc Try.prog Try.f4 [] false) (Rows.priceSumsSpec.post enc Try.prog Try.f4 false true false false) := by
  refine law_lifted (C := Try.checked) own started (by kernel_rfl) Try.func4 rfl (fun ds hds => ?_) (tb := 4) (by kernel_rfl) Try.underlying4 laidOut (fun t ht => ?_)
    (ChangeSpec.witness6 (enc := enc) (C := Try.checked) false ⟨#[], #[.agg #[.bool false, .bool false, .bool false, .int .i64 0, .int .i64 0, .int .i64 0, .int .i64 0, .int .i64 0, .int .i64 0, .int .i64 0, .int .i64 0, .int .i64 0, .int .i64 0, .int .i64 0, .int .i64 0, .int .i64 0], .int .i64 0], []⟩ 8 (by kernel_rfl) (by kernel_rfl) (by kernel_rfl) (by kernel_rfl)) ?_
  · rw [Try.params4] at hds
    match ds, hds with
    | [_, _], _ => rfl
  · have := List.all_eq_true.1 (show (Try.f4.params.toList.all fun t => Try.prog.readableRec t && decide (t < Try.prog.types.size)) = true by kernel_rfl) t ht
    simp only [Bool.and_eq_true, decide_eq_true_eq] at this
    exact this
  · intro W args g
    rw [Try.params4] at g
    obtain ⟨v0, q0, e0, g0, h0⟩ := g.cons_inv
    obtain ⟨v1, q1, rfl, g1, h1⟩ := h0.cons_inv
    obtain rfl := h1.nil_inv
    obtain rfl : args = #[v0, v1] := by cases args; simp_all
    obtain ⟨c0, y0, rfl, r0⟩ := g0.agg Try.underlying25 opensDec
    obtain ⟨n, rfl, x1⟩ := g1.int Try.underlying3 (by kernel_rfl)
    obtain ⟨al, to, si, lim, price, fn, fd, tn, td, cn, cd, sn, sd, rn, rd, y, rfl, _⟩ := dec_of r0
    exact sums_walk al to si lim price fn fd tn td cn cd sn sd rn rd y n W

theorem priceSums_holds : Rows.PriceSumsSaid :=
  OpenClaim.holds_of_wide 4 Try.f4 rfl rfl rfl rfl rfl rfl rfl ⟨rfl, rfl, rfl, rfl, rfl⟩ rfl rfl rfl rfl rfl (by kernel_rfl) Try.func4 (by kernel_rfl)
    (of_decide_eq_true (by kernel_rfl)) (by unfold Func.isWrapper; first | (rw [if_pos (by decide +kernel)]; kernel_rfl) | (rw [if_neg (by decide +kernel)]; exact ⟨rfl, rfl⟩))
    (fun os started H enc _ => priceSums_lifted os started H enc)
#print axioms priceSums_holds
end Go.Proofs.Ytdacfopdalgkaaa
