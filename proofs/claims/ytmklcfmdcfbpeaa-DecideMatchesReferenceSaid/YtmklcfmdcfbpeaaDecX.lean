/- DecideMatchesReference: all functions agree with the reference, for every policy and facts; no condition. -/
import Derived.Test.YtmklcfmdcfbpeaaDecN
import Derived.Test.YtmklcfmdcfbpeaaDecO
namespace Go.Proofs.Ytmklcfmdcfbpeaa
open Go.RowKit Go.ChangeAt
set_option linter.unusedVariables false
set_option linter.unusedSimpArgs false
attribute [local go_sem] ext_cell ext_frozen lt_ext ext_drew

set_option maxRecDepth 100000 in
set_option maxHeartbeats 4000000 in
theorem match13 (A : Option Addr) (rs : List Rl) (cap : Nat) (f : Fc) (w : World) (h : Elems tRl w w.heap.size A rs) (hm : rs.length ≤ 9223372036854775807) (hf : f.length = 10) :
    Calls Try.prog 3 #[.agg #[.slice A rs.length cap], .agg (fcV f)] w fun e w' => e = .returned (.bool true) ∧ Below w.heap.size w w' := by
  rw [fcV_cells hf]
  have HH := Lib.hid h
  have HF := Lib.hid hf
  clear h hf
  go_enter Try.func3, Try.ntmps3
  go_wp2_with fail
  refine (head_any _).mono ?_
  rintro e w1 ⟨rfl, hb⟩
  have HB := Lib.hid hb
  clear hb
  go_upto_region 2 with (fail)
  refine forget (fun W => Below w.heap.size w W ∧ Bk W w.heap.size #[.slice A rs.length cap] 24 ∧ Bk W (w.heap.size + 1) #[.int .i64 (atF f 0), .int .i64 (atF f 1), .int .i64 (atF f 2), .int .i64 (atF f 3), .int .i64 (atF f 4), .int .i64 (atF f 5), .int .i64 (atF f 6), .int .i64 (atF f 7), .int .i64 (atF f 8), .int .i64 (atF f 9)] 26) ⟨Below.trans0 (Below.alloc0 (below_self w _) _) HB.out, ((Bk.new w _ _).alloc _).below HB.out, (bk_new_at _ _ _ _ (by simp)).below HB.out⟩ ?_
  clear HB
  rintro W ⟨hw, b0, b1⟩
  have c0 := b0.cell
  have c1 := b1.cell
  have l0 := b0.lt
  have l1 := b1.lt
  have HW := Lib.hid (And.intro hw (And.intro b0 b1))
  clear hw b0 b1
  obtain ⟨q, hq⟩ : ∃ v, fewP rs 210 = v := ⟨_, rfl⟩
  have HQ := Lib.hid hq
  clear hq
  cases q
  · go_wp2_with (go_at_call 11; refine (few_210 HH.out _ HQ.out _ HW.out.1).mono ?_; rintro e w' ⟨rfl, hb⟩; (first | (obtain ⟨u, rfl⟩ := ext_more hb; clear hb) | (obtain ⟨u, rfl⟩ := ext_more_alloc hb; clear hb) | (obtain ⟨u, rfl⟩ := ext_of hb; clear hb)))
    go_ret
    exact ⟨rfl, by have hw := HW.out.1; (repeat (first | with_reducible exact Below.refl _ _ | with_reducible assumption | with_reducible refine Below.alloc0 ?_ _ | with_reducible refine Below.ext0 ?_ _ | with_reducible refine Below.drew ?_ | with_reducible refine below_drewN ?_ _ | (with_reducible refine Below.setCell (hp := ?hp) ?_ _; case hp => (first | (simp; done) | (simp; omega)))))⟩
  · have hlen : rs.length ≤ 210 := by
      have := HQ.out
      unfold fewP at this
      simp only [Bool.and_eq_true, decide_eq_true_eq] at this
      exact this.1
    have hlen' : (rs.length : Int) ≤ 210 := by omega
    go_upto_region 5 with (go_at_call 11; refine (few_210 HH.out _ HQ.out _ HW.out.1).mono ?_; rintro e w' ⟨rfl, hb⟩; (first | (obtain ⟨u, rfl⟩ := ext_more hb; clear hb) | (obtain ⟨u, rfl⟩ := ext_more_alloc hb; clear hb) | (obtain ⟨u, rfl⟩ := ext_of hb; clear hb)))
    clear c0 c1 l0 l1
    go_loopw [6] (fun i wr => ∃ (k : Nat), k ≤ rs.length ∧ i = .int .i64 k ∧ Below W.heap.size W wr) (fun i _ => rs.length - (intOf i).toNat)
    case atStart => exact ⟨0, by omega, rfl, below_ext _ _⟩
    case round =>
      obtain ⟨k, hk, rfl, hlow⟩ := hrel
      have hlw := Below.trans0 HW.out.1 hlow
      have hE := HH.out.keep hlw (Nat.le_refl _)
      have b0 := HW.out.2.1.below hlow
      have b1 := HW.out.2.2.below hlow
      have c0 := b0.cell
      have c1 := b1.cell
      have l0 := b0.lt
      have l1 := b1.lt
      have hbr : w.heap.size ≤ wr.heap.size := hlw.size
      have HX := Lib.hid (And.intro hlow hlw)
      clear hlow hlw b0 b1
      by_cases hlt : k < rs.length
      · obtain ⟨b, off, kd, nm, AZ, zs, zc, num, rn1, rd1, sn1, sd1, rfl, hb, Hk, d0, d1, d2, d3, d4, d5, d6, d7, f1, f2, f3, hZ, _, _⟩ := pick_rule hE hlt
        have bw : b < wr.heap.size := by omega
        have hzl : zs.length ≤ 9223372036854775807 := by unfold maxLen at f3; omega
        have hkl : (k : Int) < (rs.length : Int) := by omega
        obtain ⟨hv, hhv⟩ : ∃ v, (zs.any fun z => inZ z f) = v := ⟨_, rfl⟩
        have Hhv := Lib.hid hhv
        have HZ := Lib.hid hZ
        clear hE hZ f1 f2 f3 hhv
        cases hv
        all_goals
          go_wp2_with fail
          refine wp_region_ext wr (by kernel_rfl) (by kernel_rfl) ?_
          repeat (go_big_quiet_step (first
            | (go_at_call 12; exact Calls.in_ext (holds_in HZ.out hbr hzl HF.out _ Hhv.out _ (below_ext _ _)))
            | (go_at_call 13; exact Calls.in_ext (rholds_in HZ.out hbr hzl HF.out _ Hhv.out _ (below_ext _ _)))))
          refine wpQuiet_nil (fun v => ?_)
          go_wp2_with fail
          go_roundw
          case rel => exact ⟨k + 1, by omega, by go_num, Below.ext0 HX.out.1 _⟩
          case measure => simp [intOf]; omega
      · obtain rfl : k = rs.length := by omega
        obtain ⟨va, hva⟩ : ∃ v, validP rs = v := ⟨_, rfl⟩
        have Hva := Lib.hid hva
        obtain ⟨ok, tg, si, lim, price, fn, fd, tn, td, cn, cd, sn, sd, rn, rd, y, hC⟩ := dcs_lit (runJ f rs rs.length)
        have HC := Lib.hid hC
        have hl1000 : rs.length ≤ 1000 := by omega
        clear hva hC hE
        cases va
        all_goals
          go_wp2_with fail
          refine wp_region_ext wr (by kernel_rfl) (by kernel_rfl) ?_
          repeat (go_big_quiet_step (first
            | (go_at_call 14; exact Calls.in_ext (valid_in HH.out hl1000 _ Hva.out _ (Below.ext0 HX.out.2 _)))
            | (go_at_call 15; exact Calls.in_ext (rvalid_in HH.out hl1000 _ Hva.out _ (Below.ext0 HX.out.2 _)))
            | (go_at_call 16; exact Calls.in_ext (dec_in HH.out hl1000 HF.out _ HC.out _ (Below.ext0 HX.out.2 _)))
            | (go_at_call 17; exact Calls.in_ext (rdec_in HH.out hl1000 HF.out _ HC.out _ (Below.ext0 HX.out.2 _)))))
          refine wpQuiet_nil (fun v => ?_)
          go_wp2_with fail
          go_ret
          exact ⟨rfl, Below.ext0 HX.out.2 _⟩

set_option maxRecDepth 100000 in
theorem decideMatchesReference_lifted (os : Os) (started : os.Started) (H : Type) (enc : TypeId × Value → H) :
    ReturnsInHanded {} Try.checked os 3 .any (Rows.decideMatchesReferenceSpec.pre6 enc Try.prog Try.f3 [] false) (Rows.decideMatchesReferenceSpec.post enc Try.prog Try.f3 false true false false) := by
  refine law_lifted (C := Try.checked) own started (by kernel_rfl) Try.func3 rfl (fun ds hds => ?_) (tb := 4) (by kernel_rfl) Try.underlying4 laidOut (fun t ht => ?_)
    (ChangeSpec.witness6 (enc := enc) (C := Try.checked) false ⟨#[], #[.agg #[.slice none 0 0], .agg #[.int .i64 0, .int .i64 0, .int .i64 0, .int .i64 0, .int .i64 0, .int .i64 0, .int .i64 0, .int .i64 0, .int .i64 0, .int .i64 0]], []⟩ 8 (by kernel_rfl) (by kernel_rfl) (by kernel_rfl) (by kernel_rfl)) ?_
  · rw [Try.params3] at hds
    match ds, hds with
    | [_, _], _ => rfl
  · have := List.all_eq_true.1 (show (Try.f3.params.toList.all fun t => Try.prog.readableRec t && decide (t < Try.prog.types.size)) = true by kernel_rfl) t ht
    simp only [Bool.and_eq_true, decide_eq_true_eq] at this
    exact this
  · intro W args g
    rw [Try.params3] at g
    obtain ⟨v0, q0, e0, g0, h0⟩ := g.cons_inv
    obtain ⟨v1, q1, rfl, g1, h1⟩ := h0.cons_inv
    obtain rfl := h1.nil_inv
    obtain rfl : args = #[v0, v1] := by cases args; simp_all
    obtain ⟨c0, y0, rfl, r0⟩ := g0.agg Try.underlying24 opensPol
    obtain ⟨c1, y1, rfl, r1⟩ := g1.arr Try.underlying26 opensFc
    obtain ⟨A, cap, e1, b1, b2, b3⟩ := pol_of r0
    obtain ⟨e2, b4, b5⟩ := fac_of r1
    rw [e1, e2]
    exact match13 A y0 cap y1 W b3 (by unfold maxLen at b2; omega) b4

theorem decideMatchesReference_holds : Rows.DecideMatchesReferenceSaid :=
  OpenClaim.holds_of_wide 3 Try.f3 rfl rfl rfl rfl rfl rfl rfl ⟨rfl, rfl, rfl, rfl, rfl⟩ rfl rfl rfl rfl rfl (by kernel_rfl) Try.func3 (by kernel_rfl)
    (of_decide_eq_true (by kernel_rfl)) (by unfold Func.isWrapper; first | (rw [if_pos (by decide +kernel)]; kernel_rfl) | (rw [if_neg (by decide +kernel)]; exact ⟨rfl, rfl⟩))
    (fun os started H enc _ => decideMatchesReference_lifted os started H enc)
#print axioms decideMatchesReference_holds

end Go.Proofs.Ytmklcfmdcfbpeaa
