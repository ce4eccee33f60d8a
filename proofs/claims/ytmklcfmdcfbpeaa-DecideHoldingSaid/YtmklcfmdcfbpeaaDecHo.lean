/- DecideHolding: without the rules that do not hold, the decision is the same but for By; for every policy and facts; no condition. -/
import Derived.Test.YtmklcfmdcfbpeaaDecN
import Derived.Test.YtmklcfmdcfbpeaaDecQ
namespace Go.Proofs.Ytmklcfmdcfbpeaa
open Go.RowKit Go.ChangeAt
set_option linter.unusedVariables false
set_option linter.unusedSimpArgs false
attribute [local go_sem] ext_cell ext_frozen lt_ext ext_drew extB_cell lt_extB

def heldTo (f : Fc) (rs : List Rl) (k : Nat) : List Rl := (rs.take k).filter fun r => holdsB r f
theorem heldTo_step {f : Fc} {rs : List Rl} {k : Nat} {r : Rl} (h : rs[k]? = some r) : heldTo f rs (k + 1) = heldTo f rs k ++ if holdsB r f = true then [r] else [] := by
  unfold heldTo
  rw [List.take_add_one, h, List.filter_append]
  congr 1
  cases hh : holdsB r f <;> simp [hh]
theorem heldTo_len (f : Fc) (rs : List Rl) (k : Nat) : (heldTo f rs k).length ≤ rs.length := by
  unfold heldTo
  have h1 := List.length_filter_le (fun r => holdsB r f) (rs.take k)
  have h2 := List.length_take_le k rs
  rw [List.length_take] at h1
  omega
theorem held_all (f : Fc) (rs : List Rl) : heldK f (heldTo f rs rs.length) = heldK f rs := by
  funext q
  unfold heldTo
  rw [List.take_length]
  exact held_holding f rs q

set_option maxRecDepth 100000 in
set_option maxHeartbeats 4000000 in
theorem holding13 (A : Option Addr) (rs : List Rl) (cap : Nat) (f : Fc) (w : World) (h : Elems tRl w w.heap.size A rs) (hm : rs.length ≤ 9223372036854775807) (hf : f.length = 10) :
    Calls Try.prog 9 #[.agg #[.slice A rs.length cap], .agg (fcV f)] w fun e w' => e = .returned (.bool true) ∧ Below w.heap.size w w' := by
  rw [fcV_cells hf]
  have HH := Lib.hid h
  have HF := Lib.hid hf
  clear h hf
  go_enter Try.func9, Try.ntmps9
  go_wp2_with fail
  refine (head_any _).mono ?_
  rintro e w1 ⟨rfl, hb⟩
  have HB := Lib.hid hb
  clear hb
  go_upto_region 2 with (fail)
  refine forget (fun W => Below w.heap.size w W ∧ Bk W w.heap.size #[.slice A rs.length cap] 24 ∧ Bk W (w.heap.size + 1) #[.int .i64 (atF f 0), .int .i64 (atF f 1), .int .i64 (atF f 2), .int .i64 (atF f 3), .int .i64 (atF f 4), .int .i64 (atF f 5), .int .i64 (atF f 6), .int .i64 (atF f 7), .int .i64 (atF f 8), .int .i64 (atF f 9)] 26) ⟨Below.trans0 (Below.alloc0 (below_self w _) _) HB.out, ((Bk.new w _ _).alloc _).below HB.out, (bk_new_at _ _ _ _ (by simp)).below HB.out⟩ ?_
  clear HB
  rintro W ⟨hw, b0, b1⟩
  have c0 := b0.cell
  have c1 := b1.cell
  have l0 := b0.lt
  have l1 := b1.lt
  have HW := Lib.hid (And.intro hw (And.intro b0 b1))
  clear hw b0 b1
  obtain ⟨q, hq⟩ : ∃ v, fewP rs 60 = v := ⟨_, rfl⟩
  have HQ := Lib.hid hq
  clear hq
  cases q
  · go_wp2_with (go_at_call 11; refine (few_60 HH.out _ HQ.out _ HW.out.1).mono ?_; rintro e w' ⟨rfl, hb⟩; (first | (obtain ⟨u, rfl⟩ := ext_more hb; clear hb) | (obtain ⟨u, rfl⟩ := ext_more_alloc hb; clear hb) | (obtain ⟨u, rfl⟩ := ext_of hb; clear hb)))
    go_ret
    exact ⟨rfl, by have hw := HW.out.1; (repeat (first | with_reducible exact Below.refl _ _ | with_reducible assumption | with_reducible refine Below.alloc0 ?_ _ | with_reducible refine Below.ext0 ?_ _ | with_reducible refine Below.drew ?_ | with_reducible refine below_drewN ?_ _ | (with_reducible refine Below.setCell (hp := ?hp) ?_ _; case hp => (first | (simp; done) | (simp; omega)))))⟩
  · have hlen : rs.length ≤ 60 := by
      have := HQ.out
      unfold fewP at this
      simp only [Bool.and_eq_true, decide_eq_true_eq] at this
      exact this.1
    have hlen' : (rs.length : Int) ≤ 60 := by omega
    go_upto_region 6 with (go_at_call 11; refine (few_60 HH.out _ HQ.out _ HW.out.1).mono ?_; rintro e w' ⟨rfl, hb⟩; (first | (obtain ⟨u, rfl⟩ := ext_more hb; clear hb) | (obtain ⟨u, rfl⟩ := ext_more_alloc hb; clear hb) | (obtain ⟨u, rfl⟩ := ext_of hb; clear hb)))
    refine forget (fun X => Below w.heap.size w X ∧ Bk X w.heap.size #[.slice A rs.length cap] 24 ∧ Bk X (w.heap.size + 1) #[.int .i64 (atF f 0), .int .i64 (atF f 1), .int .i64 (atF f 2), .int .i64 (atF f 3), .int .i64 (atF f 4), .int .i64 (atF f 5), .int .i64 (atF f 6), .int .i64 (atF f 7), .int .i64 (atF f 8), .int .i64 (atF f 9)] 26 ∧ Bk X (ext W u).heap.size #[.slice none 0 0] 24 ∧ w.heap.size + 1 < (ext W u).heap.size) ⟨?_, ?_, ?_, ?_, ?_⟩ ?_
    · have hw := HW.out.1
      (repeat (first | with_reducible exact Below.refl _ _ | with_reducible assumption | with_reducible refine Below.alloc0 ?_ _ | with_reducible refine Below.ext0 ?_ _ | with_reducible refine Below.drew ?_ | with_reducible refine below_drewN ?_ _ | (with_reducible refine Below.setCell (hp := ?hp) ?_ _; case hp => (first | (simp; done) | (simp; omega)))))
    · exact (HW.out.2.1.ext _).alloc _
    · exact (HW.out.2.2.ext _).alloc _
    · exact Bk.new _ _ _
    · exact Nat.lt_of_lt_of_le HW.out.2.2.lt (size_ext _ _)
    generalize (ext W u).heap.size = qb at *
    clear c0 c1 l0 l1 HW HQ
    rintro X0 ⟨hw, b0, b1, b2, hqb⟩
    have hq0 := b2.lt
    have HX := Lib.hid (And.intro hw (And.intro b0 (And.intro b1 b2)))
    clear hw b0 b1 b2
    obtain ⟨BB, hBB⟩ : ∃ B, X0.heap.size = B := ⟨_, rfl⟩
    have HBB := Lib.hid hBB
    have hqB : qb < BB := by omega
    have hwB : w.heap.size ≤ BB := by omega
    clear hBB hq0
    go_loopw [7] (fun i wr => ∃ (k : Nat) (v : Value), k ≤ rs.length ∧ i = .int .i64 k ∧ Bk wr qb #[v] 24 ∧ OwnL tRl 34 wr BB w.heap.size v (heldTo f rs k) ∧ Below qb X0 wr) (fun i _ => rs.length - (intOf i).toNat)
    case atStart => exact ⟨0, _, by omega, rfl, HX.out.2.2.2, OwnL.nil, Below.refl _ _⟩
    case round =>
      obtain ⟨k, v, hk, rfl, hbq, hown, hlow⟩ := hrel
      have hlw : Below w.heap.size w wr := HX.out.1.trans (hlow.mono (by omega))
      have hE := HH.out.keep hlw (Nat.le_refl _)
      have b0 := HX.out.2.1.below' hlow (by omega)
      have b1 := HX.out.2.2.1.below' hlow (by omega)
      have c0 := b0.cell
      have c1 := b1.cell
      have l0 := b0.lt
      have l1 := b1.lt
      have hbr : w.heap.size ≤ wr.heap.size := hlw.size
      have hBr : BB ≤ wr.heap.size := by have := hlow.size; rw [HBB.out] at this; exact this
      obtain ⟨A7, c7, rfl, hc7, hm7⟩ := hown.form
      have hm7' : c7 ≤ 9223372036854775807 := by unfold maxLen at hm7; omega
      have HO := Lib.hid hown
      have HQ := Lib.hid hbq
      have HY := Lib.hid (And.intro hlow (And.intro hlw (And.intro b0 b1)))
      have hql := heldTo_len f rs k
      clear hlow hlw hown hbq b0 b1 hm7
      by_cases hlt : k < rs.length
      · obtain ⟨b, off, kd, nm, AZ, zs, zc, num, rn1, rd1, sn1, sd1, rfl, hb, Hk, d0, d1, d2, d3, d4, d5, d6, d7, hzl, HZ, Hrd⟩ := pick_rule3 hE hlt
        have bw : b < wr.heap.size := by omega
        have hkl : (k : Int) < (rs.length : Int) := by omega
        obtain ⟨hv, hhv⟩ : ∃ v, (zs.any fun z => inZ z f) = v := ⟨_, rfl⟩
        have Hhv := Lib.hid hhv
        have Hst := Lib.hid (heldTo_step (f := f) Hk.out)
        clear hE hhv
        generalize heldTo f rs k = qs at *
        cases hv
        · have Hno : Hid (heldTo f rs (k + 1) = qs) := Lib.hid (by rw [Hst.out, if_neg (by unfold holdsB; dsimp only; rw [Hhv.out]; decide), List.append_nil])
          go_wp2_with fail
          refine wp_region_ext wr (by kernel_rfl) (by kernel_rfl) ?_
          repeat (go_big_quiet_step ((go_at_call 12; exact Calls.in_ext (holds_in HZ.out hbr hzl HF.out _ Hhv.out _ (below_ext _ _)))))
          refine wpQuiet_nil (fun v => ?_)
          go_wp2_with fail
          go_roundw
          case rel => exact ⟨k + 1, _, by omega, by go_num, HQ.out.ext _, by rw [Hno.out]; exact HO.out.below (below_ext _ _) hbr, HY.out.1.trans ((below_ext wr v).mono (by omega))⟩
          case measure => simp [intOf]; omega
        · have Hyes : Hid (heldTo f rs (k + 1) = qs ++ [(kd, nm, zs, num, (rn1, rd1), (sn1, sd1))]) := Lib.hid (by rw [Hst.out, if_pos (by unfold holdsB; dsimp only; rw [Hhv.out])])
          go_wp2_with fail
          refine wp_region_ext wr (by kernel_rfl) (by kernel_rfl) ?_
          repeat (go_big_quiet_step ((go_at_call 12; exact Calls.in_ext (holds_in HZ.out hbr hzl HF.out _ Hhv.out _ (below_ext _ _)))))
          refine wpQuiet_nil (fun v => ?_)
          have HO2 := Lib.hid (HO.out.below (below_ext wr v) hbr)
          have HQ2 := Lib.hid (HQ.out.ext v)
          have Hrd2 := Lib.hid (tRl.keep ((below_ext wr v).mono hbr) (Nat.le_refl _) Hrd.out)
          refine forget_then (fun X => Below wr.heap.size wr X ∧ OwnL tRl 34 X BB w.heap.size (.slice A7 qs.length c7) qs ∧ Bk X qb #[.slice A7 qs.length c7] 24 ∧ tRl.rd X w.heap.size [.int .i64 kd, .string nm, .slice AZ zs.length zc, .int .i64 num, .int .i64 rn1, .int .i64 rd1, .int .i64 sn1, .int .i64 sd1] (kd, nm, zs, num, (rn1, rd1), (sn1, sd1))) ⟨below_ext wr v, HO2.out, HQ2.out, Hrd2.out⟩ ?_
          clear HO2 HQ2 Hrd2
          rintro X ⟨hX, hown, hbq, hrd⟩
          have cX0 := (HY.out.2.2.1.below hX).cell
          have lX0 : w.heap.size < X.heap.size := (HY.out.2.2.1.below hX).lt
          have cq := hbq.cell
          have e0 := (hX.cell (p := ⟨b, off + k * 8, none⟩) bw).trans d0
          have e1 := (hX.cell (p := ⟨b, off + k * 8 + 1, none⟩) bw).trans d1
          have e2 := (hX.cell (p := ⟨b, off + k * 8 + 2, none⟩) bw).trans d2
          have e3 := (hX.cell (p := ⟨b, off + k * 8 + 3, none⟩) bw).trans d3
          have e4 := (hX.cell (p := ⟨b, off + k * 8 + 4, none⟩) bw).trans d4
          have e5 := (hX.cell (p := ⟨b, off + k * 8 + 5, none⟩) bw).trans d5
          have e6 := (hX.cell (p := ⟨b, off + k * 8 + 6, none⟩) bw).trans d6
          have e7 := (hX.cell (p := ⟨b, off + k * 8 + 7, none⟩) bw).trans d7
          have hBX : BB ≤ X.heap.size := by have := hX.size; omega
          have hwX : w.heap.size ≤ X.heap.size := by omega
          have bB : b < BB := by omega
          have wB : w.heap.size < BB := by omega
          have HXX := Lib.hid hX
          have HO := Lib.hid hown
          have HQ := Lib.hid hbq
          have Hrd := Lib.hid hrd
          clear hX hown hbq hrd d0 d1 d2 d3 d4 d5 d6 d7 c0 c1 l0 l1 bw
          go_wp2_with fail
          have hS0 : Below BB X X.drew := (Below.refl _ _).drew
          have HS0 := Lib.hid hS0
          clear hS0
          refine region_planl (S := fun w' => ∃ u, w' = extB BB X u) [([0, 1, 2, 3, 4, 5, 6], [7, 8]), ([9], [])] 10 (by kernel_rfl) (by kernel_rfl) (mem_extB hBX HS0.out) ?_
          refine plan_take (fun K9 h9 => ?_)
          simp only [List.map_cons, List.map_nil, pickO, List.getD_cons_zero, List.getD_cons_succ]
          repeat (go_big_quiet_step (fail))
          refine wpQuiet_nil (h9 _ ?_)
          clear h9 K9
          refine plan_run (fun K9 h9 => ?_)
          simp only [pickO, List.getD_cons_zero, List.getD_cons_succ]
          refine list_lit1w (by rfl) _ 34 _ (by rfl) #[.int .i64 kd, .string nm, .slice AZ zs.length zc, .int .i64 num, .int .i64 rn1, .int .i64 rd1, .int .i64 sn1, .int .i64 sd1] (by rfl) Try.underlying22 (by kernel_rfl) (by simp) (by simp) (by kernel_rfl) ?_
          show K9 _ _
          go_simp
          refine h9 _ _ (mem_extB hBX (HS0.out.alloc hBX _)) ?_
          clear h9 K9
          refine plan_run (fun K9 h9 => ?_)
          simp only [pickO, List.getD_cons_zero, List.getD_cons_succ]
          refine list_appendL (T := tRl) (base := BB) (B := w.heap.size) (qs := qs) (v := .slice A7 qs.length c7) rfl _ _ _ rfl 88 Try.underlying22 (by kernel_rfl) (by decide) one_rl rfl (HO.out.below ((Below.refl _ X).drew.alloc (Nat.le_refl _) _) hwX) (some ⟨X.heap.size, 0, none⟩) 1 1 [_] [(#[.int .i64 kd, .string nm, .slice AZ zs.length zc, .int .i64 num, .int .i64 rn1, .int .i64 rd1, .int .i64 sn1, .int .i64 sd1] : Array Value).toList] rfl rfl rfl (fun i h1 h2 => by obtain rfl : i = 0 := (by simp at h1; omega); exact tRl.keep ((Below.refl _ X).drew.alloc hwX _) (Nat.le_refl _) Hrd.out) (by have := lies_bk ((Bk.new X #[.int .i64 kd, .string nm, .slice AZ zs.length zc, .int .i64 num, .int .i64 rn1, .int .i64 rd1, .int .i64 sn1, .int .i64 sd1] 34).drew) 1; simpa using this) (by unfold maxLen; omega) (by omega) (by simp; omega) hwB ?_
          intro A8 c8 w8 hown8 hbel8 hg8 hd8
          show K9 _ _
          go_simp
          have hB8 : Below BB X w8 := (HS0.out.alloc hBX _).trans hbel8
          have H8 := Lib.hid (And.intro hown8 (hB8))
          refine h9 _ _ (mem_extB hBX hB8) ?_
          clear h9 K9 hown8 hbel8 hg8 hd8 hB8
          refine plan_next ?_
          refine plan_take (fun K9 h9 => ?_)
          simp only [List.map_cons, List.map_nil, pickO, List.getD_cons_zero, List.getD_cons_succ]
          repeat (go_big_quiet_step (fail))
          refine wpQuiet_nil (h9 _ ?_)
          clear h9 K9
          refine plan_next (plan_end ?_)
          simp only [pickO, List.getD_cons_zero, List.getD_cons_succ]
          have bq8 := HQ.out.below' H8.out.2 hqB
          have cq8 : w8.cell? ⟨qb, 0, none⟩ = some _ := bq8.cell 0
          have fq8 := bq8.free 0
          have lq8 := bq8.lt
          have HQ8 := Lib.hid bq8
          clear bq8
          go_wp2_with fail
          go_roundw
          case rel => exact ⟨k + 1, _, by omega, by go_num, HQ8.out.set_ 0 _, by rw [Hyes.out]; exact H8.out.1.only (S := fun b => b = qb) ((Only.refl (fun b => b = qb) w8).set_ (p := ⟨qb, 0, none⟩) (.inl rfl) _) (fun g hg => by omega) (by have := H8.out.2.size; omega) (fun g hg => by have := (H8.out.1.lt g hg).1; omega), ((HY.out.1.trans (HXX.out.mono (by omega))).trans (H8.out.2.mono (by omega))).setCell (by show qb ≤ qb; omega) _⟩
          case measure => simp [intOf]; omega
      · obtain rfl : k = rs.length := by omega
        have hK := held_all f rs
        obtain ⟨qs, hqs⟩ : ∃ q, heldTo f rs rs.length = q := ⟨_, rfl⟩
        rw [hqs] at HO HQ hc7 hql hK
        obtain ⟨ok, tg, si, lim, price, fn, fd, tn, td, cn, cd, sn, sd, rn, rd, hG⟩ := decG_lit (heldK f rs)
        have HC1 := Lib.hid ((dcs_gist f rs).trans (hG (byG f rs)))
        have HC2 := Lib.hid ((dcs_gist f qs).trans ((congrArg (fun l => decG l (byG f qs)) hK).trans (hG (byG f qs))))
        generalize byG f rs = y1 at *
        generalize byG f qs = y2 at *
        have hl1 : rs.length ≤ 1000 := by omega
        have hl2 : qs.length ≤ 1000 := by omega
        have HE2 := Lib.hid (HO.out.elems (B2 := wr.heap.size) hbr (Nat.le_refl _))
        have cq := HQ.out.cell
        have lq := HQ.out.lt
        clear hG hK hE hqs
        go_wp2_with fail
        refine wp_region_ext wr (by kernel_rfl) (by kernel_rfl) ?_
        repeat (go_big_quiet_step (first
          | (go_at_call 18; exact Calls.in_ext (like_yes _ _ _ _ _ _ _ _ _ _ _ _ _ _ _ _ _ _))
          | (go_at_call 16; exact Calls.in_ext (by with_reducible exact dec_in HH.out hl1 HF.out _ HC1.out _ (Below.ext0 HY.out.2.1 _)))
          | (go_at_call 16; exact Calls.in_ext (dec_in HE2.out hl2 HF.out _ HC2.out _ (below_ext _ _)))))
        refine wpQuiet_nil (fun v => ?_)
        go_wp2_with fail
        go_ret
        exact ⟨rfl, Below.ext0 HY.out.2.1 _⟩

set_option maxRecDepth 100000 in
theorem decideHolding_lifted (os : Os) (started : os.Started) (H : Type) (enc : TypeId × Value → H) :
    ReturnsInHanded {} Try.checked os 9 .any (Rows.decideHoldingSpec.pre6 enc Try.prog Try.f9 [] false) (Rows.decideHoldingSpec.post enc Try.prog Try.f9 false true false false) := by
  refine law_lifted (C := Try.checked) own started (by kernel_rfl) Try.func9 rfl (fun ds hds => ?_) (tb := 4) (by kernel_rfl) Try.underlying4 laidOut (fun t ht => ?_)
    (ChangeSpec.witness6 (enc := enc) (C := Try.checked) false ⟨#[], #[.agg #[.slice none 0 0], .agg #[.int .i64 0, .int .i64 0, .int .i64 0, .int .i64 0, .int .i64 0, .int .i64 0, .int .i64 0, .int .i64 0, .int .i64 0, .int .i64 0]], []⟩ 8 (by kernel_rfl) (by kernel_rfl) (by kernel_rfl) (by kernel_rfl)) ?_
  · rw [Try.params9] at hds
    match ds, hds with
    | [_, _], _ => rfl
  · have := List.all_eq_true.1 (show (Try.f9.params.toList.all fun t => Try.prog.readableRec t && decide (t < Try.prog.types.size)) = true by kernel_rfl) t ht
    simp only [Bool.and_eq_true, decide_eq_true_eq] at this
    exact this
  · intro W args g
    rw [Try.params9] at g
    obtain ⟨v0, q0, e0, g0, h0⟩ := g.cons_inv
    obtain ⟨v1, q1, rfl, g1, h1⟩ := h0.cons_inv
    obtain rfl := h1.nil_inv
    obtain rfl : args = #[v0, v1] := by cases args; simp_all
    obtain ⟨c0, y0, rfl, r0⟩ := g0.agg Try.underlying24 opensPol
    obtain ⟨c1, y1, rfl, r1⟩ := g1.arr Try.underlying26 opensFc
    obtain ⟨A, cap, e1, b1, b2, b3⟩ := pol_of r0
    obtain ⟨e2, b4, b5⟩ := fac_of r1
    rw [e1, e2]
    exact holding13 A y0 cap y1 W b3 (by unfold maxLen at b2; omega) b4

theorem decideHolding_holds : Rows.DecideHoldingSaid :=
  OpenClaim.holds_of_wide 9 Try.f9 rfl rfl rfl rfl rfl rfl rfl ⟨rfl, rfl, rfl, rfl, rfl⟩ rfl rfl rfl rfl rfl (by kernel_rfl) Try.func9 (by kernel_rfl)
    (of_decide_eq_true (by kernel_rfl)) (by unfold Func.isWrapper; first | (rw [if_pos (by decide +kernel)]; kernel_rfl) | (rw [if_neg (by decide +kernel)]; exact ⟨rfl, rfl⟩))
    (fun os started H enc _ => decideHolding_lifted os started H enc)
#print axioms decideHolding_holds

end Go.Proofs.Ytmklcfmdcfbpeaa
