/- ResolveMatchesReference: both functions agree with the reference, for every rules and hall; no condition. -/
import Derived.Test.YtecjhniomjmocaaResRj
import Derived.Test.YtecjhniomjmocaaResSm
namespace Go.Proofs.Ytecjhniomjmocaa
open Go.RowKit Go.ChangeAt
set_option linter.unusedVariables false
set_option linter.unusedSimpArgs false
attribute [local go_sem] ext_cell ext_frozen lt_ext ext_drew

theorem faultsP_len (L : Nm) (l : List It) : (faultsP L l).length ≤ 1000 := by
  unfold faultsP
  rw [List.length_append]
  have := faultsTo_len (L := L) (l := l) (i := min l.length 200) (Nat.min_le_left _ _)
  have h2 := Nat.min_le_right l.length 200
  split <;> simp <;> omega
theorem rulesP_len (L : Nm) (l : List It) : (rulesP L l).length ≤ l.length := by
  by_cases h : faultsP L l = []
  · rw [rules_len h]; exact Nat.le_refl _
  · rw [rules_none h]; simp
theorem sameL_self {α : Type} [DecidableEq α] (a : List α) : sameL a a = true := by unfold sameL; simp
attribute [local go_sem] eq_zone

set_option maxRecDepth 100000 in
set_option maxHeartbeats 4000000 in
theorem match12 (A : Option Addr) (its : List It) (cap : Nat) (hn : ByteArray) (x y : Int) (AH : Option Addr) (lh : List Le) (ch : Nat) (w : World) (h : Elems tIt w w.heap.size A its) (hh : Elems tLe w w.heap.size AH lh) (hcap : its.length ≤ cap) (hcm : cap ≤ 9223372036854775807) (hlh : lh.length ≤ 9223372036854775807) :
    Calls Try.prog 3 #[.agg #[.slice A its.length cap], .agg #[.string hn, .int .i64 x, .int .i64 y, .slice AH lh.length ch]] w fun e w' => e = .returned (.bool true) ∧ Below w.heap.size w w' := by
  have HH := Lib.hid (And.intro h hh)
  clear h hh
  go_enter Try.func3, Try.ntmps3
  go_wp2_with fail
  refine (head_any _).mono ?_
  rintro e w1 ⟨rfl, hb⟩
  have HB := Lib.hid hb
  clear hb
  go_upto_region 2 with (fail)
  refine forget (fun W => Below w.heap.size w W ∧ Bk W w.heap.size #[.slice A its.length cap] 24 ∧ Bk W (w.heap.size + 1) #[.string hn, .int .i64 x, .int .i64 y, .slice AH lh.length ch] 29) ⟨Below.trans0 (Below.alloc0 (below_self _ _) _) HB.out, ((Bk.new w _ _).alloc _).below HB.out, (bk_next w _ _ _).below HB.out⟩ ?_
  clear HB
  rintro W ⟨hw, b0, b1⟩
  have c0 := b0.cell
  have c1 := b1.cell
  have l0 := b0.lt
  have l1 := b1.lt
  have HW := Lib.hid (And.intro hw (And.intro b0 b1))
  clear hw b0 b1
  obtain ⟨q1, hq1⟩ : ∃ v, fewB its = v := ⟨_, rfl⟩
  obtain ⟨q2, hq2⟩ : ∃ v, smallB lh = v := ⟨_, rfl⟩
  have HQ1 := Lib.hid hq1
  have HQ2 := Lib.hid hq2
  have hin : its.length ≤ 9223372036854775807 := by omega
  clear hq1 hq2
  cases q1
  · go_wp2_with (go_at_call 10; refine (few_in HH.out.1 hin _ HQ1.out _ HW.out.1).mono ?_; rintro e w' ⟨rfl, hb⟩; (first | (obtain ⟨u, rfl⟩ := ext_more hb; clear hb) | (obtain ⟨u, rfl⟩ := ext_more_alloc hb; clear hb) | (obtain ⟨u, rfl⟩ := ext_of hb; clear hb)))
    go_ret
    exact ⟨rfl, by have hw := HW.out.1; (repeat (first | with_reducible exact Below.refl _ _ | with_reducible assumption | with_reducible refine Below.alloc0 ?_ _ | with_reducible refine Below.ext0 ?_ _ | with_reducible refine Below.drew ?_ | with_reducible refine below_drewN ?_ _ | (with_reducible refine Below.setCell (hp := ?hp) ?_ _; case hp => (first | (simp; done) | (simp; omega)))))⟩
  cases q2
  · go_wp2_with (first
      | (go_at_call 10; refine (few_in HH.out.1 hin _ HQ1.out _ HW.out.1).mono ?_; rintro e w' ⟨rfl, hb⟩; (first | (obtain ⟨u, rfl⟩ := ext_more hb; clear hb) | (obtain ⟨u, rfl⟩ := ext_more_alloc hb; clear hb) | (obtain ⟨u, rfl⟩ := ext_of hb; clear hb)))
      | (go_at_call 11; refine (small_in HH.out.2 hlh _ HQ2.out _ (Below.ext0 HW.out.1 _)).mono ?_; rintro e w' ⟨rfl, hb⟩; (first | (obtain ⟨u, rfl⟩ := ext_more hb; clear hb) | (obtain ⟨u, rfl⟩ := ext_more_alloc hb; clear hb) | (obtain ⟨u, rfl⟩ := ext_of hb; clear hb))))
    go_ret
    exact ⟨rfl, by have hw := HW.out.1; (repeat (first | with_reducible exact Below.refl _ _ | with_reducible assumption | with_reducible refine Below.alloc0 ?_ _ | with_reducible refine Below.ext0 ?_ _ | with_reducible refine Below.drew ?_ | with_reducible refine below_drewN ?_ _ | (with_reducible refine Below.setCell (hp := ?hp) ?_ _; case hp => (first | (simp; done) | (simp; omega)))))⟩
  obtain ⟨L, hL⟩ : ∃ L, (lvlsN lh, blksN lh) = L := ⟨_, rfl⟩
  have HL := Lib.hid hL
  obtain ⟨ps, hps⟩ : ∃ ps, rulesP L its = ps := ⟨_, rfl⟩
  obtain ⟨fs, hfs⟩ : ∃ fs, faultsP L its = fs := ⟨_, rfl⟩
  have HP := Lib.hid (And.intro hps hfs)
  have hpl : ps.length ≤ 9223372036854775807 := by have := rulesP_len L its; rw [hps] at this; omega
  have hfl : fs.length ≤ 9223372036854775807 := by have := faultsP_len L its; rw [hfs] at this; omega
  clear hL hps hfs
  have HR0 := Lib.hid (fun (X : World) (hX : Below w.heap.size w X) => rcompile_any A its cap hn x y AH lh ch X w.heap.size (HH.out.1.keep hX (Nat.le_refl _)) (HH.out.2.keep hX (Nat.le_refl _)) hX.size (fewB_spec HQ1.out).1 (fewB_spec HQ1.out).2 (smallB_spec HQ2.out).1 (smallB_spec HQ2.out).2 L HL.out)
  go_upto_region 5 with (first
    | (go_at_call 10; refine (few_in HH.out.1 hin _ HQ1.out _ HW.out.1).mono ?_; rintro e w' ⟨rfl, hb⟩; (first | (obtain ⟨u, rfl⟩ := ext_more hb; clear hb) | (obtain ⟨u, rfl⟩ := ext_more_alloc hb; clear hb) | (obtain ⟨u, rfl⟩ := ext_of hb; clear hb)))
    | (go_at_call 11; refine (small_in HH.out.2 hlh _ HQ2.out _ (Below.ext0 HW.out.1 _)).mono ?_; rintro e w' ⟨rfl, hb⟩; (first | (obtain ⟨u, rfl⟩ := ext_more hb; clear hb) | (obtain ⟨u, rfl⟩ := ext_more_alloc hb; clear hb) | (obtain ⟨u, rfl⟩ := ext_of hb; clear hb)))
    | (go_at_call 12; refine (comp_in HH.out.1 HH.out.2 HQ1.out HQ2.out hcap hcm L HL.out _ (Below.ext0 HW.out.1 _)).mono ?_; rintro e w' ⟨hbC, A1, c1', A2, c2', he, hr, hf⟩; rw [HP.out.1, HP.out.2] at he; rw [HP.out.1] at hr; rw [HP.out.2] at hf; subst he; have HC := Lib.hid (And.intro hbC (And.intro hr hf)); clear hbC hr hf))
  have hbW : Below W.heap.size W w' := (below_ext W _).trans (HC.out.1.mono (size_ext _ _))
  refine forget (fun X => Below w.heap.size w X ∧ Bk X w.heap.size #[.slice A its.length cap] 24 ∧ Bk X (w.heap.size + 1) #[.string hn, .int .i64 x, .int .i64 y, .slice AH lh.length ch] 29 ∧ Bk X w'.heap.size #[.slice A1 ps.length c1'] 35 ∧ Elems tRl X X.heap.size A1 ps ∧ Elems tFa X X.heap.size A2 fs) ⟨?_, ?_, ?_, ?_, ?_, ?_⟩ ?_
  · have h9 := Below.trans0 HW.out.1 hbW
    (repeat (first | with_reducible exact Below.refl _ _ | with_reducible assumption | with_reducible refine Below.alloc0 ?_ _ | with_reducible refine Below.ext0 ?_ _ | with_reducible refine Below.drew ?_ | with_reducible refine below_drewN ?_ _ | (with_reducible refine Below.setCell (hp := ?hp) ?_ _; case hp => (first | (simp; done) | (simp; omega)))))
  · exact (HW.out.2.1.below hbW).alloc _
  · exact (HW.out.2.2.below hbW).alloc _
  · exact Bk.new w' _ _
  · exact HC.out.2.1.keep (by (repeat (first | with_reducible exact Below.refl _ _ | with_reducible assumption | with_reducible refine Below.alloc0 ?_ _ | with_reducible refine Below.ext0 ?_ _ | with_reducible refine Below.drew ?_ | with_reducible refine below_drewN ?_ _ | (with_reducible refine Below.setCell (hp := ?hp) ?_ _; case hp => (first | (simp; done) | (simp; omega)))))) (by simp)
  · exact HC.out.2.2.keep (by (repeat (first | with_reducible exact Below.refl _ _ | with_reducible assumption | with_reducible refine Below.alloc0 ?_ _ | with_reducible refine Below.ext0 ?_ _ | with_reducible refine Below.drew ?_ | with_reducible refine below_drewN ?_ _ | (with_reducible refine Below.setCell (hp := ?hp) ?_ _; case hp => (first | (simp; done) | (simp; omega)))))) (by simp)
  clear hbW HC c0 c1 l0 l1 HW
  generalize w'.heap.size = pb at *
  rintro X ⟨hX, b0, b1, b2, hr, hf⟩
  have c0 := b0.cell
  have c1 := b1.cell
  have l0 := b0.lt
  have l1 := b1.lt
  have HX := Lib.hid (And.intro hX (And.intro b0 (And.intro b1 (And.intro b2 (And.intro hr hf)))))
  clear hX b0 b1 b2 hr hf
  go_upto_region 6 with (go_at_call 13; refine (HR0.out _ HX.out.1).mono ?_; rintro e w' ⟨hbC, A3, c3', A4, c4', he, hr, hf⟩; rw [HP.out.1, HP.out.2] at he; rw [HP.out.1] at hr; rw [HP.out.2] at hf; subst he; have HC := Lib.hid (And.intro hbC (And.intro hr hf)); clear hbC hr hf)
  refine forget (fun Y => Below w.heap.size w Y ∧ Bk Y pb #[.slice A1 ps.length c1'] 35 ∧ Elems tRl Y Y.heap.size A1 ps ∧ Elems tFa Y Y.heap.size A2 fs ∧ Bk Y w'.heap.size #[.slice A3 ps.length c3'] 35 ∧ Elems tRl Y Y.heap.size A3 ps ∧ Elems tFa Y Y.heap.size A4 fs) ⟨?_, ?_, ?_, ?_, ?_, ?_, ?_⟩ ?_
  · have h9 := Below.trans0 HX.out.1 HC.out.1
    (repeat (first | with_reducible exact Below.refl _ _ | with_reducible assumption | with_reducible refine Below.alloc0 ?_ _ | with_reducible refine Below.ext0 ?_ _ | with_reducible refine Below.drew ?_ | with_reducible refine below_drewN ?_ _ | (with_reducible refine Below.setCell (hp := ?hp) ?_ _; case hp => (first | (simp; done) | (simp; omega)))))
  · exact (HX.out.2.2.2.1.below HC.out.1).alloc _
  · have h9 := HC.out.1
    have h8 := h9.size
    exact HX.out.2.2.2.2.1.keep (by (repeat (first | with_reducible exact Below.refl _ _ | with_reducible assumption | with_reducible refine Below.alloc0 ?_ _ | with_reducible refine Below.ext0 ?_ _ | with_reducible refine Below.drew ?_ | with_reducible refine below_drewN ?_ _ | (with_reducible refine Below.setCell (hp := ?hp) ?_ _; case hp => (first | (simp; done) | (simp; omega)))))) (by simp; omega)
  · have h9 := HC.out.1
    have h8 := h9.size
    exact HX.out.2.2.2.2.2.keep (by (repeat (first | with_reducible exact Below.refl _ _ | with_reducible assumption | with_reducible refine Below.alloc0 ?_ _ | with_reducible refine Below.ext0 ?_ _ | with_reducible refine Below.drew ?_ | with_reducible refine below_drewN ?_ _ | (with_reducible refine Below.setCell (hp := ?hp) ?_ _; case hp => (first | (simp; done) | (simp; omega)))))) (by simp; omega)
  · exact Bk.new w' _ _
  · exact HC.out.2.1.keep (by (repeat (first | with_reducible exact Below.refl _ _ | with_reducible assumption | with_reducible refine Below.alloc0 ?_ _ | with_reducible refine Below.ext0 ?_ _ | with_reducible refine Below.drew ?_ | with_reducible refine below_drewN ?_ _ | (with_reducible refine Below.setCell (hp := ?hp) ?_ _; case hp => (first | (simp; done) | (simp; omega)))))) (by simp)
  · exact HC.out.2.2.keep (by (repeat (first | with_reducible exact Below.refl _ _ | with_reducible assumption | with_reducible refine Below.alloc0 ?_ _ | with_reducible refine Below.ext0 ?_ _ | with_reducible refine Below.drew ?_ | with_reducible refine below_drewN ?_ _ | (with_reducible refine Below.setCell (hp := ?hp) ?_ _; case hp => (first | (simp; done) | (simp; omega)))))) (by simp)
  clear HC c0 c1 l0 l1 HX
  generalize w'.heap.size = qb at *
  rintro Y ⟨hY, b0, hr, hf, b1, hr2, hf2⟩
  have c0 := b0.cell
  have c1 := b1.cell
  have l0 := b0.lt
  have l1 := b1.lt
  have e0 : Y.cell? ⟨pb, 0, none⟩ = some (.slice A1 ps.length c1') := b0.cell 0
  have e1 : Y.cell? ⟨qb, 0, none⟩ = some (.slice A3 ps.length c3') := b1.cell 0
  have HY := Lib.hid (And.intro hY (And.intro hr (And.intro hf (And.intro hr2 hf2))))
  clear hY b0 b1 hr hf hr2 hf2
  have heq := eq_lim
  go_wp2_with (first
    | (go_at_call 14; refine (limits_any _).mono ?_; rintro e w' ⟨rfl, hb⟩; (first | (obtain ⟨u, rfl⟩ := ext_more hb; clear hb) | (obtain ⟨u, rfl⟩ := ext_more_alloc hb; clear hb) | (obtain ⟨u, rfl⟩ := ext_of hb; clear hb)))
    | (go_at_call 15; refine (rlimits_any _).mono ?_; rintro e w' ⟨rfl, hb⟩; (first | (obtain ⟨u, rfl⟩ := ext_more hb; clear hb) | (obtain ⟨u, rfl⟩ := ext_more_alloc hb; clear hb) | (obtain ⟨u, rfl⟩ := ext_of hb; clear hb)))
    | (go_at_call 16; refine (same_any ps A1 A3 c1' c3' _ Y.heap.size (HY.out.2.1.keep (below_ext _ _) (Nat.le_refl _)) (HY.out.2.2.2.1.keep (below_ext _ _) (Nat.le_refl _)) (size_ext _ _) hpl).mono ?_; rintro e w' ⟨rfl, hb⟩; (first | (obtain ⟨u, rfl⟩ := ext_more hb; clear hb) | (obtain ⟨u, rfl⟩ := ext_more_alloc hb; clear hb) | (obtain ⟨u, rfl⟩ := ext_of hb; clear hb)))
    | (go_at_call 17; refine (faults_any A2 fs fs.length c2' A4 fs fs.length c4' _ Y.heap.size (HY.out.2.2.1.keep (below_ext Y _) (Nat.le_refl _)) (HY.out.2.2.2.2.keep (below_ext Y _) (Nat.le_refl _)) (size_ext Y _) rfl rfl hfl hfl).mono ?_; rw [sameL_self]; rintro e w' ⟨rfl, hb⟩; (first | (obtain ⟨u, rfl⟩ := ext_more hb; clear hb) | (obtain ⟨u, rfl⟩ := ext_more_alloc hb; clear hb) | (obtain ⟨u, rfl⟩ := ext_of hb; clear hb))))
  go_ret
  exact ⟨rfl, by have hw := HY.out.1; (repeat (first | with_reducible exact Below.refl _ _ | with_reducible assumption | with_reducible refine Below.alloc0 ?_ _ | with_reducible refine Below.ext0 ?_ _ | with_reducible refine Below.drew ?_ | with_reducible refine below_drewN ?_ _ | (with_reducible refine Below.setCell (hp := ?hp) ?_ _; case hp => (first | (simp; done) | (simp; omega)))))⟩
set_option maxRecDepth 100000 in
theorem resolveMatchesReference_lifted (os : Os) (started : os.Started) (H : Type) (enc : TypeId × Value → H) :
    ReturnsInHanded {} Try.checked os 3 .any (Rows.resolveMatchesReferenceSpec.pre6 enc Try.prog Try.f3 [] false) (Rows.resolveMatchesReferenceSpec.post enc Try.prog Try.f3 false true false false) := by
  refine law_liftedZ (C := Try.checked) own started (by kernel_rfl) Try.func3 rfl (fun ds hds => ?_) (tb := 4) (by kernel_rfl) Try.underlying4 laidOut (fun t ht => ?_)
    (ChangeSpec.witness6 (enc := enc) (C := Try.checked) false ⟨#[], #[.agg #[.slice none 0 0], .agg #[.string ⟨#[]⟩, .int .i64 0, .int .i64 0, .slice none 0 0]], []⟩ 8 (by kernel_rfl) (by kernel_rfl) (by kernel_rfl) (by kernel_rfl)) ?_
  · rw [Try.params3] at hds
    match ds, hds with
    | [_, _], _ => rfl
  · have := List.all_eq_true.1 (show (Try.f3.params.toList.all fun t => Try.prog.readableRec t && decide (t < Try.prog.types.size)) = true by kernel_rfl) t ht
    simp only [Bool.and_eq_true, decide_eq_true_eq] at this
    exact this
  · intro W args g
    rw [Try.params3] at g
    obtain ⟨v0, q0, e0, g0, h0⟩ := g.cons_inv
    obtain ⟨v1, q1, rfl, g1, h1⟩ := h0.cons_inv
    obtain rfl := h1.nil_inv
    obtain rfl : args = #[v0, v1] := by cases args; simp_all
    obtain ⟨c0, y0, rfl, r0⟩ := g0.agg Try.underlying24 opensRules
    obtain ⟨c1, y1, rfl, r1⟩ := g1.agg Try.underlying29 opensHa
    obtain ⟨A, cap, e1, b1, b2, b3⟩ := items_of r0
    obtain ⟨hn, a, b, AH, ch, e2, b4, b5, b6, b7, b8⟩ := hall_of r1
    rw [e1, e2]
    exact match12 A y0 cap hn a b AH y1.2.2 ch W b3 b7 b1 b2 b4

theorem resolveMatchesReference_holds : Rows.ResolveMatchesReferenceSaid :=
  OpenClaim.holds_of_wide 3 Try.f3 rfl rfl rfl rfl rfl rfl rfl ⟨rfl, rfl, rfl, rfl, rfl⟩ rfl rfl rfl rfl rfl (by kernel_rfl) Try.func3 (by kernel_rfl)
    (of_decide_eq_true (by kernel_rfl)) (by unfold Func.isWrapper; first | (rw [if_pos (by decide +kernel)]; kernel_rfl) | (rw [if_neg (by decide +kernel)]; exact ⟨rfl, rfl⟩))
    (fun os started H enc _ => resolveMatchesReference_lifted os started H enc)
#print axioms resolveMatchesReference_holds


end Go.Proofs.Ytecjhniomjmocaa
