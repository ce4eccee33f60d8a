/- DealSales: in a sale, the artist, the house and the taxes get the sums of their lines, each means loses its amount; for every bill, name and means; no condition. -/
import Derived.Test.YtggmihnhdojepaaDealY
import Derived.Test.YtggmihnhdojepaaDealZ
import Derived.Deep.DeepCutAuto
namespace Go.Proofs.Ytggmihnhdojepaa
open Go.RowKit Go.ChangeAt
set_option linter.unusedVariables false
set_option linter.unusedSimpArgs false
attribute [local go_sem] ext_cell ext_frozen lt_ext ext_drew

set_option maxRecDepth 100000 in
set_option maxHeartbeats 8000000 in
theorem sales_walk (A : Option Addr) (ls : List Ln) (cap : Nat) (total : Int) (pn : ByteArray) (A2 : Option Addr) (ms : List Mn) (cap2 : Nat) (w : World) (h : Elems tLine w w.heap.size A ls) (h2 : Elems tMean w w.heap.size A2 ms) (hm : ls.length ≤ 9223372036854775807) (hm2 : ms.length ≤ 9223372036854775807) (ht : fits total) (hpn : pn.size ≤ maxLen) :
    Calls Try.prog 5 #[.agg #[.slice A ls.length cap, .int .i64 total], .string pn, .slice A2 ms.length cap2] w fun e w' => e = .returned (.bool true) ∧ Below w.heap.size w w' := by
  have HH := Lib.hid (And.intro h (And.intro h2 (And.intro ht hpn)))
  have hps : pn.size ≤ 9223372036854775807 := by unfold maxLen at hpn; omega
  clear h h2 ht hpn
  go_enter Try.func5, Try.ntmps5
  go_wp2_with fail
  refine (head_any _).mono ?_
  rintro e W ⟨rfl, hb⟩
  have hw : Below w.heap.size w W := Below.trans0 (below_self _ _) hb
  have b0 : Bk W w.heap.size #[.slice A ls.length cap, .int .i64 total] 24 := (Bk.new w _ _).below hb
  have hws := hw.size
  have c0 := b0.cell
  have l0 := b0.lt
  have HE := Lib.hid (And.intro (HH.out.1.keep hw (Nat.le_refl _)) (HH.out.2.1.keep hw (Nat.le_refl _)))
  obtain ⟨q, hq⟩ : ∃ v, fewD ls ms = v := ⟨_, rfl⟩
  have HF := Lib.hid (few_in (A := A) (total := total) (cap := cap) (cap2 := cap2) HE.out.2 hws rfl rfl hm hm2 q hq)
  have HQ := Lib.hid hq
  have HW := Lib.hid (And.intro hw b0)
  clear hw b0 hb hq
  cases q
  · as_aux_lemma =>
    go_wp2_with (go_at_call 11; refine (HF.out _ ?bel).mono ?_; (case bel => (repeat (first | with_reducible exact Below.refl _ _ | with_reducible assumption | with_reducible refine Below.alloc0 ?_ _ | with_reducible refine Below.ext0 ?_ _ | with_reducible refine Below.drew ?_ | with_reducible refine below_drewN ?_ _ | (with_reducible refine Below.setCell (hp := ?hp) ?_ _; case hp => (first | (simp; done) | (simp; omega)))))); rintro e w' ⟨rfl, hb⟩; (first | (obtain ⟨u, rfl⟩ := ext_more hb; clear hb) | (obtain ⟨u, rfl⟩ := ext_more_alloc hb; clear hb) | (obtain ⟨u, rfl⟩ := ext_of hb; clear hb)))
    go_ret
    exact ⟨rfl, by have hw := HW.out.1; (repeat (first | with_reducible exact Below.refl _ _ | with_reducible assumption | with_reducible refine Below.alloc0 ?_ _ | with_reducible refine Below.ext0 ?_ _ | with_reducible refine Below.drew ?_ | with_reducible refine below_drewN ?_ _ | (with_reducible refine Below.setCell (hp := ?hp) ?_ _; case hp => (first | (simp; done) | (simp; omega)))))⟩
  · obtain ⟨f1, f2⟩ := fewD_out HQ.out
    by_cases hp : 100 < (pn.size : Int)
    · as_aux_lemma =>
      go_wp2_with (go_at_call 11; refine (HF.out _ ?bel).mono ?_; (case bel => (repeat (first | with_reducible exact Below.refl _ _ | with_reducible assumption | with_reducible refine Below.alloc0 ?_ _ | with_reducible refine Below.ext0 ?_ _ | with_reducible refine Below.drew ?_ | with_reducible refine below_drewN ?_ _ | (with_reducible refine Below.setCell (hp := ?hp) ?_ _; case hp => (first | (simp; done) | (simp; omega)))))); rintro e w' ⟨rfl, hb⟩; (first | (obtain ⟨u, rfl⟩ := ext_more hb; clear hb) | (obtain ⟨u, rfl⟩ := ext_more_alloc hb; clear hb) | (obtain ⟨u, rfl⟩ := ext_of hb; clear hb)))
      go_ret
      exact ⟨rfl, by have hw := HW.out.1; (repeat (first | with_reducible exact Below.refl _ _ | with_reducible assumption | with_reducible refine Below.alloc0 ?_ _ | with_reducible refine Below.ext0 ?_ _ | with_reducible refine Below.drew ?_ | with_reducible refine below_drewN ?_ _ | (with_reducible refine Below.setCell (hp := ?hp) ?_ _; case hp => (first | (simp; done) | (simp; omega)))))⟩
    · have hp' : (pn.size : Int) ≤ 100 := by omega
      clear hp
      obtain ⟨L, hL⟩ : ∃ v, saleL ls total pn ms = v := ⟨_, rfl⟩
      obtain ⟨er, her⟩ : ∃ v, saleE ls total pn ms = v := ⟨_, rfl⟩
      have HS := Lib.hid (sale_in (cap := cap) (cap2 := cap2) HE.out.1 HE.out.2 hws rfl f1 HH.out.2.2.1 rfl hm2 HH.out.2.2.2 L er hL her)
      have HL := Lib.hid hL
      have HER := Lib.hid her
      clear hL her
      by_cases h0 : er = 0
      · subst h0
        go_upto_region 5 with (first
          | (go_at_call 11; refine (HF.out _ ?bel).mono ?_; (case bel => (repeat (first | with_reducible exact Below.refl _ _ | with_reducible assumption | with_reducible refine Below.alloc0 ?_ _ | with_reducible refine Below.ext0 ?_ _ | with_reducible refine Below.drew ?_ | with_reducible refine below_drewN ?_ _ | (with_reducible refine Below.setCell (hp := ?hp) ?_ _; case hp => (first | (simp; done) | (simp; omega)))))); rintro e w' ⟨rfl, hb⟩; (first | (obtain ⟨u, rfl⟩ := ext_more hb; clear hb) | (obtain ⟨u, rfl⟩ := ext_more_alloc hb; clear hb) | (obtain ⟨u, rfl⟩ := ext_of hb; clear hb)))
          | (go_at_call 12; refine (HS.out _ ?bel).mono ?_; (case bel => (repeat (first | with_reducible exact Below.refl _ _ | with_reducible assumption | with_reducible refine Below.alloc0 ?_ _ | with_reducible refine Below.ext0 ?_ _ | with_reducible refine Below.drew ?_ | with_reducible refine below_drewN ?_ _ | (with_reducible refine Below.setCell (hp := ?hp) ?_ _; case hp => (first | (simp; done) | (simp; omega)))))); rintro e w4 ⟨A4, n4, q4, rfl, rfl, hE4, hc4, hm4, hb4⟩))
        have hw4 : Below W.heap.size W w4 := Below.trans0 (Below.ext0 (Below.refl _ _) _) hb4
        refine forget (fun X => Below W.heap.size W X ∧ Elems tPst X X.heap.size A4 L ∧ Bk X w4.heap.size #[.int .i64 0, .slice A4 L.length q4] 34) ⟨Below.alloc0 hw4 _, hE4.keep (below_self _ _) (by simp), Bk.new _ _ _⟩ ?_
        have hg : W.heap.size ≤ w4.heap.size := hw4.size
        generalize w4.heap.size = g4 at *
        clear hb4 hE4 hw4
        rintro Y ⟨hw, hE4, k4⟩
        have hys := hw.size
        have d0 := fun i => (hw.cell (p := ⟨w.heap.size, i, none⟩) l0).trans (c0 i)
        have m0 : w.heap.size < Y.heap.size := by omega
        have d4 := k4.cell
        have m4 := k4.lt
        obtain ⟨z1, z2, z3, z4⟩ := sale0 HER.out
        obtain ⟨hall, hsum, ht0, ht1⟩ := right_out z1
        have hms := (totB_out z3).1
        have hL15 : L.length ≤ 15 := by rw [← HL.out]; exact saleL_len ..
        have hbd : ∀ p ∈ L, -3000000000 ≤ p.2 ∧ p.2 ≤ 3000000000 := by rw [← HL.out]; exact saleL_bd
        have hto := sale_to HER.out
        rw [HL.out] at hto
        have HLs := HE.out.1.keep (hw.mono hws) (Nat.le_refl _)
        obtain ⟨P1, hP1⟩ : ∃ v, partOf 1 ls = v := ⟨_, rfl⟩
        obtain ⟨P2, hP2⟩ : ∃ v, partOf 2 ls = v := ⟨_, rfl⟩
        obtain ⟨P3, hP3⟩ : ∃ v, partOf 3 ls = v := ⟨_, rfl⟩
        rw [hP1, hP2, hP3] at hto
        have T1 := Lib.hid (to_in (cap := q4) hE4 (Nat.le_refl _) rfl (by omega) hbd 2 ⟨#[]⟩ P1 hto.1)
        have T2 := Lib.hid (to_in (cap := q4) hE4 (Nat.le_refl _) rfl (by omega) hbd 1 ⟨#[]⟩ P2 hto.2.1)
        have T3 := Lib.hid (to_in (cap := q4) hE4 (Nat.le_refl _) rfl (by omega) hbd 3 ⟨#[]⟩ P3 hto.2.2)
        have O1 := Lib.hid (lof_in (cap := cap) (total := total) HLs (by omega) rfl f1 hall 1 (by decide) P1 hP1)
        have O2 := Lib.hid (lof_in (cap := cap) (total := total) HLs (by omega) rfl f1 hall 2 (by decide) P2 hP2)
        have O3 := Lib.hid (lof_in (cap := cap) (total := total) HLs (by omega) rfl f1 hall 3 (by decide) P3 hP3)
        have TM : Hid (∀ (i : Nat) (m : Mn), ms[i]? = some m → ∀ X, Below Y.heap.size Y X → Calls Try.prog 20 #[.agg #[.int .i64 0, .slice A4 L.length q4], .int .i64 5, .string m.1] X fun e w' => e = .returned (.int .i64 (-m.2)) ∧ Below X.heap.size X w') := Lib.hid fun i m hi => to_in (cap := q4) hE4 (Nat.le_refl _) rfl (by omega) hbd 5 m.1 _ (by rw [← HL.out]; exact sale_to_mean HER.out hi)
        have OK := Lib.hid (okM_in (totB_out z3).2)
        have HMs := Lib.hid (HE.out.2.keep (hw.mono hws) (Nat.le_refl _))
        have HY := Lib.hid (Below.trans0 HW.out.1 hw)
        clear hw hE4 k4 z1 z2 z3 z4 hall hsum ht0 ht1 hbd hto HLs hP1 hP2 hP3 HS HL HER HF HE HW HH HQ c0 l0
        go_wp2_with fail
        go_loopw [10] (fun i wr => ∃ k : Nat, k ≤ ms.length ∧ i = .int .i64 k ∧ Below Y.heap.size Y wr) (fun i _ => ms.length - (intOf i).toNat)
        case atStart => exact ⟨0, by omega, rfl, Below.refl _ _⟩
        case round =>
          obtain ⟨k, hk, rfl, hb⟩ := hrel
          have e0 := fun i => (hb.cell (p := ⟨w.heap.size, i, none⟩) m0).trans (d0 i)
          have e4 := fun i => (hb.cell (p := ⟨g4, i, none⟩) m4).trans (d4 i)
          have hbs := hb.size
          have n0 : w.heap.size < wr.heap.size := by omega
          have n4 : g4 < wr.heap.size := by omega
          have hE := HMs.out.keep (hb.mono (by omega)) (Nat.le_refl _)
          have HB := Lib.hid hb
          clear hb
          by_cases hlt : k < ms.length
          · obtain ⟨b, off, nm, a, rfl, hbl, Hk, y0, y1, y2, y3⟩ := pick_mean hE hlt
            have bw : b < wr.heap.size := by omega
            have hkl : (k : Int) < (ms.length : Int) := by omega
            have hk12 : (k : Int) ≤ 12 := by omega
            obtain ⟨o1, o2⟩ := OK.out _ (List.mem_of_getElem? Hk.out)
            have TMk := Lib.hid (TM.out k _ Hk.out)
            simp only at o1 o2 TMk
            clear hE
            as_aux_lemma =>
            go_wp2_with fail
            refine wp_region_ext wr (by kernel_rfl) (by kernel_rfl) ?_
            repeat (go_big_quiet_step ((go_at_call 20; exact Calls.in_ext (TMk.out _ (Below.ext0 HB.out _)))))
            refine wpQuiet_nil (fun v => ?_)
            go_wp2_with fail
            go_roundw
            case rel => exact ⟨k + 1, by omega, by go_num, Below.ext0 HB.out _⟩
            case measure => simp [intOf]; omega
          · obtain rfl : k = ms.length := by omega
            clear hE
            as_aux_lemma =>
            go_wp2_with fail
            refine wp_region_ext wr (by kernel_rfl) (by kernel_rfl) ?_
            repeat (go_big_quiet_step (first
              | (go_at_call 20; exact Calls.in_ext (by first | with_reducible exact T1.out _ (Below.ext0 HB.out _) | with_reducible exact T2.out _ (Below.ext0 HB.out _) | with_reducible exact T3.out _ (Below.ext0 HB.out _)))
              | (go_at_call 21; exact Calls.in_ext (by first | with_reducible exact O1.out _ (Below.ext0 HB.out _) | with_reducible exact O2.out _ (Below.ext0 HB.out _) | with_reducible exact O3.out _ (Below.ext0 HB.out _)))))
            refine wpQuiet_nil (fun v => ?_)
            go_wp2_with fail
            go_ret
            exact ⟨rfl, Below.ext0 (Below.trans0 HY.out HB.out) _⟩
      · have h0b : (er != 0) = true := by simpa using h0
        as_aux_lemma =>
        go_wp2_with (first
          | (go_at_call 11; refine (HF.out _ ?bel).mono ?_; (case bel => (repeat (first | with_reducible exact Below.refl _ _ | with_reducible assumption | with_reducible refine Below.alloc0 ?_ _ | with_reducible refine Below.ext0 ?_ _ | with_reducible refine Below.drew ?_ | with_reducible refine below_drewN ?_ _ | (with_reducible refine Below.setCell (hp := ?hp) ?_ _; case hp => (first | (simp; done) | (simp; omega)))))); rintro e w' ⟨rfl, hb⟩; (first | (obtain ⟨u, rfl⟩ := ext_more hb; clear hb) | (obtain ⟨u, rfl⟩ := ext_more_alloc hb; clear hb) | (obtain ⟨u, rfl⟩ := ext_of hb; clear hb)))
          | (go_at_call 12; refine (HS.out _ ?bel).mono ?_; (case bel => (repeat (first | with_reducible exact Below.refl _ _ | with_reducible assumption | with_reducible refine Below.alloc0 ?_ _ | with_reducible refine Below.ext0 ?_ _ | with_reducible refine Below.drew ?_ | with_reducible refine below_drewN ?_ _ | (with_reducible refine Below.setCell (hp := ?hp) ?_ _; case hp => (first | (simp; done) | (simp; omega)))))); rintro e w4 ⟨A4, n4, q4, rfl, rfl, hE4, hc4, hm4, hb4⟩))
        go_ret
        exact ⟨rfl, by have hw := Below.trans0 (Below.trans0 HW.out.1 (Below.ext0 (Below.refl _ _) _)) hb4; (repeat (first | with_reducible exact Below.refl _ _ | with_reducible assumption | with_reducible refine Below.alloc0 ?_ _ | with_reducible refine Below.ext0 ?_ _ | with_reducible refine Below.drew ?_ | with_reducible refine below_drewN ?_ _ | (with_reducible refine Below.setCell (hp := ?hp) ?_ _; case hp => (first | (simp; done) | (simp; omega)))))⟩

set_option maxRecDepth 100000 in
theorem dealSales_lifted (os : Os) (started : os.Started) (H : Type) (enc : TypeId × Value → H) :
    ReturnsInHanded {} Try.checked os 5 .any (Rows.dealSalesSpec.pre6 enc Try.prog Try.f5 [] false) (Rows.dealSalesSpec.post enc Try.prog Try.f5 false true false false) := by
  refine law_lifted (C := Try.checked) own started (by kernel_rfl) Try.func5 rfl (fun ds hds => ?_) (tb := 4) (by kernel_rfl) Try.underlying4 laidOut (fun t ht => ?_)
    (ChangeSpec.witness6 (enc := enc) (C := Try.checked) false ⟨#[], #[.agg #[.slice none 0 0, .int .i64 0], .string ⟨#[]⟩, .slice none 0 0], []⟩ 8 (by kernel_rfl) (by kernel_rfl) (by kernel_rfl) (by kernel_rfl)) ?_
  · rw [Try.params5] at hds
    match ds, hds with
    | [_, _, _], _ => rfl
  · have := List.all_eq_true.1 (show (Try.f5.params.toList.all fun t => Try.prog.readableRec t && decide (t < Try.prog.types.size)) = true by kernel_rfl) t ht
    simp only [Bool.and_eq_true, decide_eq_true_eq] at this
    exact this
  · intro W args g
    rw [Try.params5] at g
    obtain ⟨v0, q0, e0, g0, h0⟩ := g.cons_inv
    obtain ⟨v1, q1, rfl, g1, h1⟩ := h0.cons_inv
    obtain ⟨v2, q2, rfl, g2, h2⟩ := h1.cons_inv
    obtain rfl := h2.nil_inv
    obtain rfl : args = #[v0, v1, v2] := by cases args; simp_all
    obtain ⟨c0, y0, rfl, r0⟩ := g0.agg Try.underlying24 opensBill
    obtain ⟨pn, rfl, b1⟩ := g1.str Try.underlying9 (by kernel_rfl)
    obtain ⟨A2, cap2, ms, rfl, d1, d2, d3⟩ := g2.slice Try.underlying29 opensMeans
    obtain ⟨A, cap, rfl, a1, a2, a3, a4⟩ := bill_of r0
    exact sales_walk A y0.1 cap y0.2 pn A2 ms cap2 W a3 d3 (by unfold maxLen at a2; omega) (by unfold maxLen at d2; omega) a4 b1

theorem dealSales_holds : Rows.DealSalesSaid :=
  OpenClaim.holds_of_wide 5 Try.f5 rfl rfl rfl rfl rfl rfl rfl ⟨rfl, rfl, rfl, rfl, rfl⟩ rfl rfl rfl rfl rfl (by kernel_rfl) Try.func5 (by kernel_rfl)
    (of_decide_eq_true (by kernel_rfl)) (by unfold Func.isWrapper; first | (rw [if_pos (by decide +kernel)]; kernel_rfl) | (rw [if_neg (by decide +kernel)]; exact ⟨rfl, rfl⟩))
    (fun os started H enc _ => dealSales_lifted os started H enc)
#print axioms dealSales_holds
end Go.Proofs.Ytggmihnhdojepaa
