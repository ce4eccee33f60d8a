/- DealRefunds: the refund of the total of a sale to its means has the postings of the sale with opposite signs; for every bill, name and means; no condition. -/
import Derived.Test.YtggmihnhdojepaaDealY
import Derived.Test.YtggmihnhdojepaaDealZ
import Derived.Deep.DeepCutAuto
namespace Go.Proofs.Ytggmihnhdojepaa
open Go.RowKit Go.ChangeAt
set_option linter.unusedVariables false
set_option linter.unusedSimpArgs false
attribute [local go_sem] ext_cell ext_frozen lt_ext ext_drew
set_option maxRecDepth 100000 in
set_option maxHeartbeats 8000000 in
theorem refunds_walk (A : Option Addr) (ls : List Ln) (cap : Nat) (total : Int) (pn : ByteArray) (A2 : Option Addr) (ms : List Mn) (cap2 : Nat) (w : World) (h : Elems tLine w w.heap.size A ls) (h2 : Elems tMean w w.heap.size A2 ms) (hm : ls.length ≤ 9223372036854775807) (hm2 : ms.length ≤ 9223372036854775807) (ht : fits total) (hpn : pn.size ≤ maxLen) :
    Calls Try.prog 7 #[.agg #[.slice A ls.length cap, .int .i64 total], .string pn, .slice A2 ms.length cap2] w fun e w' => e = .returned (.bool true) ∧ Below w.heap.size w w' := by
  have HH := Lib.hid (And.intro h (And.intro h2 (And.intro ht hpn)))
  have hps : pn.size ≤ 9223372036854775807 := by unfold maxLen at hpn; omega
  clear h h2 ht hpn
  go_enter Try.func7, Try.ntmps7
  go_wp2_with fail
  refine (head_any _).mono ?_
  rintro e W ⟨rfl, hb⟩
  have hw : Below w.heap.size w W := Below.trans0 (below_self _ _) hb
  have b0 : Bk W w.heap.size #[.slice A ls.length cap, .int .i64 total] 24 := (Bk.new w _ _).below hb
  have hws := hw.size
  have c0 := b0.cell
  have l0 := b0.lt
  have HE := Lib.hid (And.intro (HH.out.1.keep hw (Nat.le_refl _)) (HH.out.2.1.keep hw (Nat.le_refl _)))
  obtain ⟨q, hq⟩ : ∃ v, fewD ls ms = v := ⟨_, rfl⟩
  have HF := Lib.hid (few_in (A := A) (total := total) (cap := cap) (cap2 := cap2) HE.out.2 hws rfl rfl hm hm2 q hq)
  have HQ := Lib.hid hq
  have HW := Lib.hid (And.intro hw b0)
  clear hw b0 hb hq
  cases q
  · as_aux_lemma =>
    go_wp2_with (go_at_call 11; refine (HF.out _ ?bel).mono ?_; (case bel => (repeat (first | with_reducible exact Below.refl _ _ | with_reducible assumption | with_reducible refine Below.alloc0 ?_ _ | with_reducible refine Below.ext0 ?_ _ | with_reducible refine Below.drew ?_ | with_reducible refine below_drewN ?_ _ | (with_reducible refine Below.setCell (hp := ?hp) ?_ _; case hp => (first | (simp; done) | (simp; omega)))))); rintro e w' ⟨rfl, hb⟩; (first | (obtain ⟨u, rfl⟩ := ext_more hb; clear hb) | (obtain ⟨u, rfl⟩ := ext_more_alloc hb; clear hb) | (obtain ⟨u, rfl⟩ := ext_of hb; clear hb)))
    go_ret
    exact ⟨rfl, by have hw := HW.out.1; (repeat (first | with_reducible exact Below.refl _ _ | with_reducible assumption | with_reducible refine Below.alloc0 ?_ _ | with_reducible refine Below.ext0 ?_ _ | with_reducible refine Below.drew ?_ | with_reducible refine below_drewN ?_ _ | (with_reducible refine Below.setCell (hp := ?hp) ?_ _; case hp => (first | (simp; done) | (simp; omega)))))⟩
  · obtain ⟨f1, f2⟩ := fewD_out HQ.out
    by_cases hp : 100 < (pn.size : Int)
    · as_aux_lemma =>
      go_wp2_with (go_at_call 11; refine (HF.out _ ?bel).mono ?_; (case bel => (repeat (first | with_reducible exact Below.refl _ _ | with_reducible assumption | with_reducible refine Below.alloc0 ?_ _ | with_reducible refine Below.ext0 ?_ _ | with_reducible refine Below.drew ?_ | with_reducible refine below_drewN ?_ _ | (with_reducible refine Below.setCell (hp := ?hp) ?_ _; case hp => (first | (simp; done) | (simp; omega)))))); rintro e w' ⟨rfl, hb⟩; (first | (obtain ⟨u, rfl⟩ := ext_more hb; clear hb) | (obtain ⟨u, rfl⟩ := ext_more_alloc hb; clear hb) | (obtain ⟨u, rfl⟩ := ext_of hb; clear hb)))
      go_ret
      exact ⟨rfl, by have hw := HW.out.1; (repeat (first | with_reducible exact Below.refl _ _ | with_reducible assumption | with_reducible refine Below.alloc0 ?_ _ | with_reducible refine Below.ext0 ?_ _ | with_reducible refine Below.drew ?_ | with_reducible refine below_drewN ?_ _ | (with_reducible refine Below.setCell (hp := ?hp) ?_ _; case hp => (first | (simp; done) | (simp; omega)))))⟩
    · have hp' : (pn.size : Int) ≤ 100 := by omega
      clear hp
      obtain ⟨L, hL⟩ : ∃ v, saleL ls total pn ms = v := ⟨_, rfl⟩
      obtain ⟨er, her⟩ : ∃ v, saleE ls total pn ms = v := ⟨_, rfl⟩
      have HS := Lib.hid (sale_in (cap := cap) (cap2 := cap2) HE.out.1 HE.out.2 hws rfl f1 HH.out.2.2.1 rfl hm2 HH.out.2.2.2 L er hL her)
      have HL := Lib.hid hL
      have HER := Lib.hid her
      clear hL her
      by_cases h0 : er = 0
      · subst h0
        obtain ⟨r1, r2⟩ := refund_total HER.out
        rw [HL.out] at r2
        have HR := Lib.hid (refund_in (cap := cap) (cap2 := cap2) total HE.out.1 HE.out.2 hws rfl f1 HH.out.2.2.1 rfl hm2 HH.out.2.2.1 (L.map negP) 0 r2 r1)
        have hL15 : L.length ≤ 15 := by rw [← HL.out]; exact saleL_len ..
        have hbd : ∀ p ∈ L, -3000000000 ≤ p.2 ∧ p.2 ≤ 3000000000 := by rw [← HL.out]; exact saleL_bd
        have HBd := Lib.hid hbd
        clear r1 r2 hbd
        go_upto_region 5 with (first
          | (go_at_call 11; refine (HF.out _ ?bel).mono ?_; (case bel => (repeat (first | with_reducible exact Below.refl _ _ | with_reducible assumption | with_reducible refine Below.alloc0 ?_ _ | with_reducible refine Below.ext0 ?_ _ | with_reducible refine Below.drew ?_ | with_reducible refine below_drewN ?_ _ | (with_reducible refine Below.setCell (hp := ?hp) ?_ _; case hp => (first | (simp; done) | (simp; omega)))))); rintro e w' ⟨rfl, hb⟩; (first | (obtain ⟨u, rfl⟩ := ext_more hb; clear hb) | (obtain ⟨u, rfl⟩ := ext_more_alloc hb; clear hb) | (obtain ⟨u, rfl⟩ := ext_of hb; clear hb)))
          | (go_at_call 12; refine (HS.out _ ?bel).mono ?_; (case bel => (repeat (first | with_reducible exact Below.refl _ _ | with_reducible assumption | with_reducible refine Below.alloc0 ?_ _ | with_reducible refine Below.ext0 ?_ _ | with_reducible refine Below.drew ?_ | with_reducible refine below_drewN ?_ _ | (with_reducible refine Below.setCell (hp := ?hp) ?_ _; case hp => (first | (simp; done) | (simp; omega)))))); rintro e w4 ⟨A4, n4, q4, rfl, rfl, hE4, hc4, hm4, hb4⟩))
        have hw4 : Below W.heap.size W w4 := Below.trans0 (Below.ext0 (Below.refl _ _) _) hb4
        refine forget (fun X => Below W.heap.size W X ∧ Elems tPst X X.heap.size A4 L ∧ Bk X w4.heap.size #[.int .i64 0, .slice A4 L.length q4] 34) ⟨Below.alloc0 hw4 _, hE4.keep (below_self _ _) (by simp), Bk.new _ _ _⟩ ?_
        have hg : W.heap.size ≤ w4.heap.size := hw4.size
        generalize w4.heap.size = g4 at *
        clear hb4 hE4 hw4
        rintro Y ⟨hw, hE4, k4⟩
        have hys := hw.size
        have d0 := fun i => (hw.cell (p := ⟨w.heap.size, i, none⟩) l0).trans (c0 i)
        have m0 : w.heap.size < Y.heap.size := by omega
        have HY := Lib.hid (And.intro hw (And.intro hE4 k4))
        clear hw hE4 k4 c0
        go_upto_region 8 with (go_at_call 16; refine (HR.out _ ?bel).mono ?_; (case bel => have hw := HY.out.1; (repeat (first | with_reducible exact Below.refl _ _ | with_reducible assumption | with_reducible refine Below.alloc0 ?_ _ | with_reducible refine Below.ext0 ?_ _ | with_reducible refine Below.drew ?_ | with_reducible refine below_drewN ?_ _ | (with_reducible refine Below.setCell (hp := ?hp) ?_ _; case hp => (first | (simp; done) | (simp; omega)))))); rintro e w5 ⟨A5, n5, q5, rfl, hn5, hE5, hc5, hm5, hb5⟩; obtain rfl : n5 = L.length := (by rw [hn5, List.length_map]); clear hn5)
        have hw5 : Below Y.heap.size Y w5 := hb5
        have hs5 := hw5.size
        refine forget (fun X => Below Y.heap.size Y X ∧ Elems tPst X X.heap.size A5 (L.map negP) ∧ Bk X w5.heap.size #[.int .i64 0, .slice A5 L.length q5] 34) ⟨Below.alloc0 hw5 _, hE5.keep (below_self _ _) (by simp), Bk.new _ _ _⟩ ?_
        have hg5 : Y.heap.size ≤ w5.heap.size := hw5.size
        generalize w5.heap.size = g5 at *
        clear hb5 hE5 hw5 d0
        rintro Z ⟨hw, hE5, k5⟩
        have k4 := HY.out.2.2.below hw
        have hE4 := HY.out.2.1.keep hw hw.size
        have c4 := k4.cell
        have l4 := k4.lt
        have c5 := k5.cell
        have l5 := k5.lt
        have hZ : Below w.heap.size w Z := Below.trans0 (Below.trans0 HW.out.1 HY.out.1) hw
        have HZ := Lib.hid (And.intro hZ (And.intro hE4 hE5))
        clear hw k4 k5 hE4 hE5 hZ HY HS HR HW HF HE HH l0 hs5
        have hneq : ((L.length : Int) != (L.length : Int)) = false := by simp
        go_wp2_with fail
        go_loopw [12] (fun i wr => ∃ (k q : Nat), k ≤ L.length ∧ i = .int .i64 k ∧ wr = Z.drewN q) (fun i _ => L.length - (intOf i).toNat)
        case atStart => exact ⟨0, 0, by omega, rfl, rfl⟩
        case round =>
          obtain ⟨k, q, hk, rfl, rfl⟩ := hrel
          by_cases hlt : k < L.length
          · obtain ⟨b1, o1, kd1, nm1, a1, rfl, hb1, Hk1, p1, p2, p3, _, _, _⟩ := pick_pst HZ.out.2.1 hlt
            obtain ⟨b2, o2, kd2, nm2, a2, rfl, hb2, Hk2, s1, s2, s3, _, _, _⟩ := pick_pst HZ.out.2.2 (show k < (L.map negP).length by rw [List.length_map]; exact hlt)
            have hmm := Hk2.out
            rw [List.getElem?_map, Hk1.out] at hmm
            obtain ⟨rfl, rfl, rfl⟩ : kd2 = kd1 ∧ nm2 = nm1 ∧ a2 = -a1 := by
              simp only [Option.map_some, negP, Option.some.injEq, Prod.mk.injEq] at hmm
              exact ⟨hmm.1.1.symm, hmm.1.2.symm, hmm.2.symm⟩
            clear hmm Hk2
            have hkl : (k : Int) < (L.length : Int) := by omega
            have hk15 : (k : Int) ≤ 15 := by omega
            obtain ⟨q1, q2⟩ := HBd.out _ (List.mem_of_getElem? Hk1.out)
            simp only at q1 q2
            have hnn : - -a1 = a1 := by omega
            as_aux_lemma =>
            go_wp2_with fail
            go_quiet (fail)
            go_wp2_with fail
            go_roundw
            case rel => exact ⟨k + 1, _, by omega, by go_num, rfl⟩
            case measure => simp [intOf]; omega
          · obtain rfl : k = L.length := by omega
            as_aux_lemma =>
            go_wp2_with fail
            go_ret
            exact ⟨rfl, below_drewN HZ.out.1 _⟩
      · have h0b : (er != 0) = true := by simpa using h0
        as_aux_lemma =>
        go_wp2_with (first
          | (go_at_call 11; refine (HF.out _ ?bel).mono ?_; (case bel => (repeat (first | with_reducible exact Below.refl _ _ | with_reducible assumption | with_reducible refine Below.alloc0 ?_ _ | with_reducible refine Below.ext0 ?_ _ | with_reducible refine Below.drew ?_ | with_reducible refine below_drewN ?_ _ | (with_reducible refine Below.setCell (hp := ?hp) ?_ _; case hp => (first | (simp; done) | (simp; omega)))))); rintro e w' ⟨rfl, hb⟩; (first | (obtain ⟨u, rfl⟩ := ext_more hb; clear hb) | (obtain ⟨u, rfl⟩ := ext_more_alloc hb; clear hb) | (obtain ⟨u, rfl⟩ := ext_of hb; clear hb)))
          | (go_at_call 12; refine (HS.out _ ?bel).mono ?_; (case bel => (repeat (first | with_reducible exact Below.refl _ _ | with_reducible assumption | with_reducible refine Below.alloc0 ?_ _ | with_reducible refine Below.ext0 ?_ _ | with_reducible refine Below.drew ?_ | with_reducible refine below_drewN ?_ _ | (with_reducible refine Below.setCell (hp := ?hp) ?_ _; case hp => (first | (simp; done) | (simp; omega)))))); rintro e w4 ⟨A4, n4, q4, rfl, rfl, hE4, hc4, hm4, hb4⟩))
        go_ret
        exact ⟨rfl, by have hw := Below.trans0 (Below.trans0 HW.out.1 (Below.ext0 (Below.refl _ _) _)) hb4; (repeat (first | with_reducible exact Below.refl _ _ | with_reducible assumption | with_reducible refine Below.alloc0 ?_ _ | with_reducible refine Below.ext0 ?_ _ | with_reducible refine Below.drew ?_ | with_reducible refine below_drewN ?_ _ | (with_reducible refine Below.setCell (hp := ?hp) ?_ _; case hp => (first | (simp; done) | (simp; omega)))))⟩

set_option maxRecDepth 100000 in
theorem dealRefunds_lifted (os : Os) (started : os.Started) (H : Type) (enc : TypeId × Value → H) :
    ReturnsInHanded {} Try.checked os 7 .any (Rows.dealRefundsSpec.pre6 enc Try.prog Try.f7 [] false) (Rows.dealRefundsSpec.post enc Try.prog Try.f7 false true false false) := by
  refine law_lifted (C := Try.checked) own started (by kernel_rfl) Try.func7 rfl (fun ds hds => ?_) (tb := 4) (by kernel_rfl) Try.underlying4 laidOut (fun t ht => ?_)
    (ChangeSpec.witness6 (enc := enc) (C := Try.checked) false ⟨#[], #[.agg #[.slice none 0 0, .int .i64 0], .string ⟨#[]⟩, .slice none 0 0], []⟩ 8 (by kernel_rfl) (by kernel_rfl) (by kernel_rfl) (by kernel_rfl)) ?_
  · rw [Try.params7] at hds
    match ds, hds with
    | [_, _, _], _ => rfl
  · have := List.all_eq_true.1 (show (Try.f7.params.toList.all fun t => Try.prog.readableRec t && decide (t < Try.prog.types.size)) = true by kernel_rfl) t ht
    simp only [Bool.and_eq_true, decide_eq_true_eq] at this
    exact this
  · intro W args g
    rw [Try.params7] at g
    obtain ⟨v0, q0, e0, g0, h0⟩ := g.cons_inv
    obtain ⟨v1, q1, rfl, g1, h1⟩ := h0.cons_inv
    obtain ⟨v2, q2, rfl, g2, h2⟩ := h1.cons_inv
    obtain rfl := h2.nil_inv
    obtain rfl : args = #[v0, v1, v2] := by cases args; simp_all
    obtain ⟨c0, y0, rfl, r0⟩ := g0.agg Try.underlying24 opensBill
    obtain ⟨pn, rfl, b1⟩ := g1.str Try.underlying9 (by kernel_rfl)
    obtain ⟨A2, cap2, ms, rfl, d1, d2, d3⟩ := g2.slice Try.underlying29 opensMeans
    obtain ⟨A, cap, rfl, a1, a2, a3, a4⟩ := bill_of r0
    exact refunds_walk A y0.1 cap y0.2 pn A2 ms cap2 W a3 d3 (by unfold maxLen at a2; omega) (by unfold maxLen at d2; omega) a4 b1

theorem dealRefunds_holds : Rows.DealRefundsSaid :=
  OpenClaim.holds_of_wide 7 Try.f7 rfl rfl rfl rfl rfl rfl rfl ⟨rfl, rfl, rfl, rfl, rfl⟩ rfl rfl rfl rfl rfl (by kernel_rfl) Try.func7 (by kernel_rfl)
    (of_decide_eq_true (by kernel_rfl)) (by unfold Func.isWrapper; first | (rw [if_pos (by decide +kernel)]; kernel_rfl) | (rw [if_neg (by decide +kernel)]; exact ⟨rfl, rfl⟩))
    (fun os started H enc _ => dealRefunds_lifted os started H enc)
#print axioms dealRefunds_holds
end Go.Proofs.Ytggmihnhdojepaa
