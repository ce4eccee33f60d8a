/- DealResales: of a resale the artist gets the share, the seller the rest, nobody else anything; more than price.Top is denied; for every number, bill, decision, name and means; no condition. -/
import Derived.Test.YtggmihnhdojepaaDealY
import Derived.Test.YtggmihnhdojepaaDealQ
import Derived.Deep.DeepCutAuto
namespace Go.Proofs.Ytggmihnhdojepaa
open Go.RowKit Go.ChangeAt
set_option linter.unusedVariables false
set_option linter.unusedSimpArgs false
attribute [local go_sem] ext_cell ext_frozen lt_ext ext_drew
set_option maxRecDepth 100000 in
set_option maxHeartbeats 8000000 in
theorem resales_walk (m : Int) (A : Option Addr) (ls : List Ln) (cap : Nat) (total : Int) (ok tg si : Bool) (lim price fn fd tn td cn cd sn sd rn rd y : Int) (pn : ByteArray) (A2 : Option Addr) (ms : List Mn) (cap2 : Nat) (w : World) (h : Elems tLine w w.heap.size A ls) (h2 : Elems tMean w w.heap.size A2 ms) (hm : ls.length ≤ 9223372036854775807) (hm2 : ms.length ≤ 9223372036854775807) (ht : fits total) (hpn : pn.size ≤ maxLen) (hfm : fits m) :
    Calls Try.prog 6 #[.int .i64 m, .agg #[.slice A ls.length cap, .int .i64 total], .agg #[.bool ok, .bool tg, .bool si, .int .i64 lim, .int .i64 price, .int .i64 fn, .int .i64 fd, .int .i64 tn, .int .i64 td, .int .i64 cn, .int .i64 cd, .int .i64 sn, .int .i64 sd, .int .i64 rn, .int .i64 rd, .int .i64 y], .string pn, .slice A2 ms.length cap2] w fun e w' => e = .returned (.bool true) ∧ Below w.heap.size w w' := by
  have HH := Lib.hid (And.intro h (And.intro h2 (And.intro ht (And.intro hpn hfm))))
  have hps : pn.size ≤ 9223372036854775807 := by unfold maxLen at hpn; omega
  clear h h2 ht hpn hfm
  go_enter Try.func6, Try.ntmps6
  go_wp2_with fail
  refine (head_any _).mono ?_
  rintro e W ⟨rfl, hb⟩
  have hw : Below w.heap.size w W := Below.trans0 (Below.alloc0 (below_self _ _) _) hb
  have b0 : Bk W w.heap.size #[.slice A ls.length cap, .int .i64 total] 24 := ((Bk.new w _ _).alloc _).below hb
  have b1 : Bk W (w.heap.size + 1) #[.bool ok, .bool tg, .bool si, .int .i64 lim, .int .i64 price, .int .i64 fn, .int .i64 fd, .int .i64 tn, .int .i64 td, .int .i64 cn, .int .i64 cd, .int .i64 sn, .int .i64 sd, .int .i64 rn, .int .i64 rd, .int .i64 y] 28 := (bk_new_at _ _ _ _ (by simp)).below hb
  have hws := hw.size
  have c0 := b0.cell
  have l0 := b0.lt
  have c1 := b1.cell
  have l1 := b1.lt
  have HE := Lib.hid (And.intro (HH.out.1.keep hw (Nat.le_refl _)) (HH.out.2.1.keep hw (Nat.le_refl _)))
  obtain ⟨q, hq⟩ : ∃ v, fewD ls ms = v := ⟨_, rfl⟩
  have HF := Lib.hid (few_in (A := A) (total := total) (cap := cap) (cap2 := cap2) HE.out.2 hws rfl rfl hm hm2 q hq)
  have HQ := Lib.hid hq
  have HW := Lib.hid (And.intro hw (And.intro b0 b1))
  clear hw b0 b1 hb hq
  cases q
  · as_aux_lemma =>
    go_wp2_with (go_at_call 11; refine (HF.out _ ?bel).mono ?_; (case bel => (repeat (first | with_reducible exact Below.refl _ _ | with_reducible assumption | with_reducible refine Below.alloc0 ?_ _ | with_reducible refine Below.ext0 ?_ _ | with_reducible refine Below.drew ?_ | with_reducible refine below_drewN ?_ _ | (with_reducible refine Below.setCell (hp := ?hp) ?_ _; case hp => (first | (simp; done) | (simp; omega)))))); rintro e w' ⟨rfl, hb⟩; (first | (obtain ⟨u, rfl⟩ := ext_more hb; clear hb) | (obtain ⟨u, rfl⟩ := ext_more_alloc hb; clear hb) | (obtain ⟨u, rfl⟩ := ext_of hb; clear hb)))
    go_ret
    exact ⟨rfl, by have hw := HW.out.1; (repeat (first | with_reducible exact Below.refl _ _ | with_reducible assumption | with_reducible refine Below.alloc0 ?_ _ | with_reducible refine Below.ext0 ?_ _ | with_reducible refine Below.drew ?_ | with_reducible refine below_drewN ?_ _ | (with_reducible refine Below.setCell (hp := ?hp) ?_ _; case hp => (first | (simp; done) | (simp; omega)))))⟩
  · obtain ⟨f1, f2⟩ := fewD_out HQ.out
    by_cases hp : 100 < (pn.size : Int)
    · as_aux_lemma =>
      go_wp2_with (go_at_call 11; refine (HF.out _ ?bel).mono ?_; (case bel => (repeat (first | with_reducible exact Below.refl _ _ | with_reducible assumption | with_reducible refine Below.alloc0 ?_ _ | with_reducible refine Below.ext0 ?_ _ | with_reducible refine Below.drew ?_ | with_reducible refine below_drewN ?_ _ | (with_reducible refine Below.setCell (hp := ?hp) ?_ _; case hp => (first | (simp; done) | (simp; omega)))))); rintro e w' ⟨rfl, hb⟩; (first | (obtain ⟨u, rfl⟩ := ext_more hb; clear hb) | (obtain ⟨u, rfl⟩ := ext_more_alloc hb; clear hb) | (obtain ⟨u, rfl⟩ := ext_of hb; clear hb)))
      go_ret
      exact ⟨rfl, by have hw := HW.out.1; (repeat (first | with_reducible exact Below.refl _ _ | with_reducible assumption | with_reducible refine Below.alloc0 ?_ _ | with_reducible refine Below.ext0 ?_ _ | with_reducible refine Below.drew ?_ | with_reducible refine below_drewN ?_ _ | (with_reducible refine Below.setCell (hp := ?hp) ?_ _; case hp => (first | (simp; done) | (simp; omega)))))⟩
    · have hp' : (pn.size : Int) ≤ 100 := by omega
      clear hp
      obtain ⟨L, hL⟩ : ∃ v, resaleL m ls total cn cd sn sd pn ms = v := ⟨_, rfl⟩
      obtain ⟨er, her⟩ : ∃ v, resaleE m ls total cn cd sn sd pn ms = v := ⟨_, rfl⟩
      obtain ⟨tv, htv⟩ : ∃ v, backV 1 ls total cn cd = v := ⟨_, rfl⟩
      obtain ⟨te, hte⟩ : ∃ v, backE 1 ls total cn cd = v := ⟨_, rfl⟩
      have HS := Lib.hid (resale_in (cap := cap) (cap2 := cap2) ok tg si lim price fn fd tn td cn cd sn sd rn rd y m HE.out.1 HE.out.2 hws rfl f1 HH.out.2.2.1 rfl hm2 HH.out.2.2.2.1 HH.out.2.2.2.2 L er hL her)
      have HT := Lib.hid (top_in (cap := cap) HE.out.1 hws rfl f1 HH.out.2.2.1 cn cd tv te htv hte)
      have HL := Lib.hid hL
      have HER := Lib.hid her
      have HTV := Lib.hid (And.intro htv hte)
      clear hL her htv hte
      go_upto_region 5 with (first
        | (go_at_call 11; refine (HF.out _ ?bel).mono ?_; (case bel => (repeat (first | with_reducible exact Below.refl _ _ | with_reducible assumption | with_reducible refine Below.alloc0 ?_ _ | with_reducible refine Below.ext0 ?_ _ | with_reducible refine Below.drew ?_ | with_reducible refine below_drewN ?_ _ | (with_reducible refine Below.setCell (hp := ?hp) ?_ _; case hp => (first | (simp; done) | (simp; omega)))))); rintro e w' ⟨rfl, hb⟩; (first | (obtain ⟨u, rfl⟩ := ext_more hb; clear hb) | (obtain ⟨u, rfl⟩ := ext_more_alloc hb; clear hb) | (obtain ⟨u, rfl⟩ := ext_of hb; clear hb)))
        | (go_at_call 14; refine (HS.out _ ?bel).mono ?_; (case bel => (repeat (first | with_reducible exact Below.refl _ _ | with_reducible assumption | with_reducible refine Below.alloc0 ?_ _ | with_reducible refine Below.ext0 ?_ _ | with_reducible refine Below.drew ?_ | with_reducible refine below_drewN ?_ _ | (with_reducible refine Below.setCell (hp := ?hp) ?_ _; case hp => (first | (simp; done) | (simp; omega)))))); rintro e w4 ⟨A4, n4, q4, rfl, rfl, hE4, hc4, hm4, hb4⟩))
      have hw4 : Below W.heap.size W w4 := Below.trans0 (Below.ext0 (Below.refl _ _) _) hb4
      refine forget (fun X => Below W.heap.size W X ∧ Elems tPst X X.heap.size A4 L ∧ Bk X w4.heap.size #[.int .i64 0, .slice A4 L.length q4] 34) ⟨Below.alloc0 hw4 _, hE4.keep (below_self _ _) (by simp), Bk.new _ _ _⟩ ?_
      have hg : W.heap.size ≤ w4.heap.size := hw4.size
      generalize w4.heap.size = g4 at *
      clear hb4 hE4 hw4
      rintro Y ⟨hw, hE4, k4⟩
      have hys := hw.size
      have d0 := fun i => (hw.cell (p := ⟨w.heap.size, i, none⟩) l0).trans (c0 i)
      have d1 := fun i => (hw.cell (p := ⟨w.heap.size + 1, i, none⟩) l1).trans (c1 i)
      have m0 : w.heap.size < Y.heap.size := by omega
      have m1 : w.heap.size + 1 < Y.heap.size := by omega
      have d4 := k4.cell
      have m4 := k4.lt
      have HY := Lib.hid (And.intro hw (And.intro hE4 k4))
      have HYw := Lib.hid (Below.trans0 HW.out.1 hw)
      clear hw hE4 k4 c0 c1
      by_cases h0 : er = 0
      · subst h0
        obtain ⟨z1, z2, z3, z4, z5, z6, z7⟩ := resale0 HER.out
        rw [HTV.out.2] at z5
        rw [HTV.out.1] at z6
        obtain ⟨o1, o2, o3, o4⟩ := resale_to HER.out
        obtain ⟨s1, s2, s3, s4⟩ := share_zero z3
        have z8 := share_le z1 z3 z4
        rw [HL.out] at o1 o2 o3 o4
        obtain ⟨sv, hsv⟩ : ∃ v, shareV m sn sd = v := ⟨_, rfl⟩
        have HSh := Lib.hid (share_in m sn sd sv 0 hsv z3)
        rw [hsv] at o1 o2 s3 z8
        subst z5
        have hbd : ∀ p ∈ L, -3000000000 ≤ p.2 ∧ p.2 ≤ 3000000000 := by rw [← HL.out]; exact resaleL_bd
        have hL15 : L.length ≤ 15 := by rw [← HL.out]; exact resaleL_len ..
        have T1 := Lib.hid (to_in (cap := q4) HY.out.2.1 (Nat.le_refl _) rfl (by omega) hbd 2 ⟨#[]⟩ sv o1)
        have T2 := Lib.hid (to_in (cap := q4) HY.out.2.1 (Nat.le_refl _) rfl (by omega) hbd 6 pn (m - sv) o2)
        have T3 := Lib.hid (to_in (cap := q4) HY.out.2.1 (Nat.le_refl _) rfl (by omega) hbd 1 ⟨#[]⟩ 0 o3)
        have T4 := Lib.hid (to_in (cap := q4) HY.out.2.1 (Nat.le_refl _) rfl (by omega) hbd 3 ⟨#[]⟩ 0 o4)
        clear o1 o2 o3 o4 s4 hsv hbd z2 z3 z7 s2
        have z9 : 0 ≤ m - sv := by omega
        as_aux_lemma =>
        go_wp2_with (first
          | (go_at_call 22; refine Calls.mono (HT.out _ ?bel) ?_; (case bel => have hw := HY.out.1; (repeat (first | with_reducible exact Below.refl _ _ | with_reducible assumption | with_reducible refine Below.alloc0 ?_ _ | with_reducible refine Below.ext0 ?_ _ | with_reducible refine Below.drew ?_ | with_reducible refine below_drewN ?_ _ | (with_reducible refine Below.setCell (hp := ?hp) ?_ _; case hp => (first | (simp; done) | (simp; omega)))))); rintro e w' ⟨rfl, hb⟩; (first | (obtain ⟨u, rfl⟩ := ext_more hb; clear hb) | (obtain ⟨u, rfl⟩ := ext_more_alloc hb; clear hb) | (obtain ⟨u, rfl⟩ := ext_of hb; clear hb)))
          | (go_at_call 23; refine Calls.mono (HSh.out _) ?_; rintro e w' ⟨rfl, hb⟩; (first | (obtain ⟨u, rfl⟩ := ext_more hb; clear hb) | (obtain ⟨u, rfl⟩ := ext_more_alloc hb; clear hb) | (obtain ⟨u, rfl⟩ := ext_of hb; clear hb)))
          | (go_at_call 20; (first | with_reducible refine Calls.mono (T1.out _ ?bel) ?_ | with_reducible refine Calls.mono (T2.out _ ?bel) ?_ | with_reducible refine Calls.mono (T3.out _ ?bel) ?_ | with_reducible refine Calls.mono (T4.out _ ?bel) ?_); (case bel => (repeat (first | with_reducible exact Below.refl _ _ | with_reducible assumption | with_reducible refine Below.alloc0 ?_ _ | with_reducible refine Below.ext0 ?_ _ | with_reducible refine Below.drew ?_ | with_reducible refine below_drewN ?_ _ | (with_reducible refine Below.setCell (hp := ?hp) ?_ _; case hp => (first | (simp; done) | (simp; omega)))))); rintro e w' ⟨rfl, hb⟩; (first | (obtain ⟨u, rfl⟩ := ext_more hb; clear hb) | (obtain ⟨u, rfl⟩ := ext_more_alloc hb; clear hb) | (obtain ⟨u, rfl⟩ := ext_of hb; clear hb))))
        go_ret
        exact ⟨rfl, by have hw := HYw.out; (repeat (first | with_reducible exact Below.refl _ _ | with_reducible assumption | with_reducible refine Below.alloc0 ?_ _ | with_reducible refine Below.ext0 ?_ _ | with_reducible refine Below.drew ?_ | with_reducible refine below_drewN ?_ _ | (with_reducible refine Below.setCell (hp := ?hp) ?_ _; case hp => (first | (simp; done) | (simp; omega)))))⟩
      · have h0b : (er != 0) = true := by simpa using h0
        by_cases h15 : er = 15
        · subst h15
          obtain ⟨z1, z2⟩ := resale15 HER.out
          rw [HTV.out.2] at z1
          rw [HTV.out.1] at z2
          subst z1
          clear h0 h0b
          as_aux_lemma =>
          go_wp2_with ((go_at_call 22; refine Calls.mono (HT.out _ ?bel) ?_; (case bel => have hw := HY.out.1; (repeat (first | with_reducible exact Below.refl _ _ | with_reducible assumption | with_reducible refine Below.alloc0 ?_ _ | with_reducible refine Below.ext0 ?_ _ | with_reducible refine Below.drew ?_ | with_reducible refine below_drewN ?_ _ | (with_reducible refine Below.setCell (hp := ?hp) ?_ _; case hp => (first | (simp; done) | (simp; omega)))))); rintro e w' ⟨rfl, hb⟩; (first | (obtain ⟨u, rfl⟩ := ext_more hb; clear hb) | (obtain ⟨u, rfl⟩ := ext_more_alloc hb; clear hb) | (obtain ⟨u, rfl⟩ := ext_of hb; clear hb))))
          go_ret
          exact ⟨rfl, by have hw := HYw.out; (repeat (first | with_reducible exact Below.refl _ _ | with_reducible assumption | with_reducible refine Below.alloc0 ?_ _ | with_reducible refine Below.ext0 ?_ _ | with_reducible refine Below.drew ?_ | with_reducible refine below_drewN ?_ _ | (with_reducible refine Below.setCell (hp := ?hp) ?_ _; case hp => (first | (simp; done) | (simp; omega)))))⟩
        · have h15b : (er != 15) = true := by simpa using h15
          clear h15 h0
          as_aux_lemma =>
          go_wp2_with ((go_at_call 22; refine Calls.mono (HT.out _ ?bel) ?_; (case bel => have hw := HY.out.1; (repeat (first | with_reducible exact Below.refl _ _ | with_reducible assumption | with_reducible refine Below.alloc0 ?_ _ | with_reducible refine Below.ext0 ?_ _ | with_reducible refine Below.drew ?_ | with_reducible refine below_drewN ?_ _ | (with_reducible refine Below.setCell (hp := ?hp) ?_ _; case hp => (first | (simp; done) | (simp; omega)))))); rintro e w' ⟨rfl, hb⟩; (first | (obtain ⟨u, rfl⟩ := ext_more hb; clear hb) | (obtain ⟨u, rfl⟩ := ext_more_alloc hb; clear hb) | (obtain ⟨u, rfl⟩ := ext_of hb; clear hb))))
          go_ret
          exact ⟨rfl, by have hw := HYw.out; (repeat (first | with_reducible exact Below.refl _ _ | with_reducible assumption | with_reducible refine Below.alloc0 ?_ _ | with_reducible refine Below.ext0 ?_ _ | with_reducible refine Below.drew ?_ | with_reducible refine below_drewN ?_ _ | (with_reducible refine Below.setCell (hp := ?hp) ?_ _; case hp => (first | (simp; done) | (simp; omega)))))⟩

set_option maxRecDepth 100000 in
theorem dealResales_lifted (os : Os) (started : os.Started) (H : Type) (enc : TypeId × Value → H) :
    ReturnsInHanded {} Try.checked os 6 .any (Rows.dealResalesSpec.pre6 enc Try.prog Try.f6 [] false) (Rows.dealResalesSpec.post enc Try.prog Try.f6 false true false false) := by
  refine law_lifted (C := Try.checked) own started (by kernel_rfl) Try.func6 rfl (fun ds hds => ?_) (tb := 4) (by kernel_rfl) Try.underlying4 laidOut (fun t ht => ?_)
    (ChangeSpec.witness6 (enc := enc) (C := Try.checked) false ⟨#[], #[.int .i64 0, .agg #[.slice none 0 0, .int .i64 0], .agg #[.bool false, .bool false, .bool false, .int .i64 0, .int .i64 0, .int .i64 0, .int .i64 0, .int .i64 0, .int .i64 0, .int .i64 0, .int .i64 0, .int .i64 0, .int .i64 0, .int .i64 0, .int .i64 0, .int .i64 0], .string ⟨#[]⟩, .slice none 0 0], []⟩ 8 (by kernel_rfl) (by kernel_rfl) (by kernel_rfl) (by kernel_rfl)) ?_
  · rw [Try.params6] at hds
    match ds, hds with
    | [_, _, _, _, _], _ => rfl
  · have := List.all_eq_true.1 (show (Try.f6.params.toList.all fun t => Try.prog.readableRec t && decide (t < Try.prog.types.size)) = true by kernel_rfl) t ht
    simp only [Bool.and_eq_true, decide_eq_true_eq] at this
    exact this
  · intro W args g
    rw [Try.params6] at g
    obtain ⟨v0, q0, e0, g0, h0⟩ := g.cons_inv
    obtain ⟨v1, q1, rfl, g1, h1⟩ := h0.cons_inv
    obtain ⟨v2, q2, rfl, g2, h2⟩ := h1.cons_inv
    obtain ⟨v3, q3, rfl, g3, h3⟩ := h2.cons_inv
    obtain ⟨v4, q4, rfl, g4, h4⟩ := h3.cons_inv
    obtain rfl := h4.nil_inv
    obtain rfl : args = #[v0, v1, v2, v3, v4] := by cases args; simp_all
    obtain ⟨m, rfl, b0⟩ := g0.int Try.underlying3 (by kernel_rfl)
    obtain ⟨c0, y0, rfl, r0⟩ := g1.agg Try.underlying24 opensBill
    obtain ⟨c1, y1, rfl, r1⟩ := g2.agg Try.underlying28 opensDec
    obtain ⟨pn, rfl, b1⟩ := g3.str Try.underlying9 (by kernel_rfl)
    obtain ⟨A2, cap2, ms, rfl, d1, d2, d3⟩ := g4.slice Try.underlying29 opensMeans
    obtain ⟨A, cap, rfl, a1, a2, a3, a4⟩ := bill_of r0
    obtain ⟨ok, tg, si, lim, price, fn, fd, tn, td, cn, cd, sn, sd, rn, rd, y, rfl⟩ := dec_of r1
    exact resales_walk m A y0.1 cap y0.2 ok tg si lim price fn fd tn td cn cd sn sd rn rd y pn A2 ms cap2 W a3 d3 (by unfold maxLen at a2; omega) (by unfold maxLen at d2; omega) a4 b1 b0

theorem dealResales_holds : Rows.DealResalesSaid :=
  OpenClaim.holds_of_wide 6 Try.f6 rfl rfl rfl rfl rfl rfl rfl ⟨rfl, rfl, rfl, rfl, rfl⟩ rfl rfl rfl rfl rfl (by kernel_rfl) Try.func6 (by kernel_rfl)
    (of_decide_eq_true (by kernel_rfl)) (by unfold Func.isWrapper; first | (rw [if_pos (by decide +kernel)]; kernel_rfl) | (rw [if_neg (by decide +kernel)]; exact ⟨rfl, rfl⟩))
    (fun os started H enc _ => dealResales_lifted os started H enc)
#print axioms dealResales_holds
end Go.Proofs.Ytggmihnhdojepaa
