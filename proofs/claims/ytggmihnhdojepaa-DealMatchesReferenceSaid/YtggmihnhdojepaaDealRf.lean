/- Layer 34 (deal), the reference: Refund. -/
import Derived.Test.YtggmihnhdojepaaDealS
import Derived.Test.YtggmihnhdojepaaDealBp
import Derived.Test.YtggmihnhdojepaaDealSx
namespace Go.Proofs.Ytggmihnhdojepaa
open Go.RowKit Go.ChangeAt
set_option linter.unusedVariables false
set_option linter.unusedSimpArgs false
attribute [local go_sem] ext_cell ext_frozen lt_ext ext_drew
theorem bk_ne {w : World} {b b' : Nat} {C C' : Array Value} {t t' : TypeId} (h : Bk w b C t) (h' : Bk w b' C' t') (hne : t ≠ t') : b ≠ b' := by
  rintro rfl
  have h3 : w.heap[b]? = some (.cells C t) := h
  have h4 : w.heap[b]? = some (.cells C' t') := h'
  cases h3.symm.trans h4
  exact hne rfl
theorem other_ownL {w : World} {base B : Nat} {t : TypeId} {v : Value} {qs : List Pst} {b : Nat} {C : Array Value} (h : OwnL tPst 55 w base B v qs) (hb : Bk w b C t) (hne : t ≠ 55) : some b ≠ v.ownBlock := by
  obtain ⟨css, _, _, h⟩ := h
  rcases h.2 with ⟨rfl, _⟩ | ⟨g, cap, cur, rfl, _, h2, _⟩
  · simp [Value.ownBlock]
  · simp only [Value.ownBlock, ne_eq, Option.some.injEq]
    rintro rfl
    have h3 : w.heap[b]? = some (.cells C t) := hb
    cases h2.symm.trans h3
    exact hne rfl
set_option maxRecDepth 100000 in
set_option maxHeartbeats 60000000 in
theorem rrefund_any {A : Option Addr} {ls : List Ln} {cap n : Nat} {total : Int} {A2 : Option Addr} {ms : List Mn} {cap2 n2 : Nat} {w : World} {B : Nat} (amount : Int) (h : Elems tLine w B A ls) (h2 : Elems tMean w B A2 ms) (hB : B ≤ w.heap.size) (hn : ls.length = n) (hl : n ≤ 60) (ht : fits total) (hn2 : ms.length = n2) (hl2 : n2 ≤ 9223372036854775807) (hfa : fits amount) :
    Calls Try.prog 17 #[.agg #[.slice A n cap, .int .i64 total], .int .i64 amount, .slice A2 n2 cap2] w (Booked w (refundL ls total amount ms) (refundE ls total amount ms)) := by
  obtain ⟨tb, htb⟩ : ∃ v, totB ms = v := ⟨_, rfl⟩
  obtain ⟨r, hr⟩ : ∃ v, rightB ls total = v := ⟨_, rfl⟩
  have Hfor := Lib.hid (formed_in (cap2 := cap2) h2 hB hn2 hl2 tb htb)
  have Hrgt := Lib.hid (rright_in (cap := cap) h hB hn hl ht r hr)
  have HE := Lib.hid (And.intro h (And.intro h2 (And.intro htb hr)))
  clear htb hr h h2
  by_cases hgood : r = true ∧ 0 ≤ amount ∧ tb = true
  · obtain ⟨rfl, g1, rfl⟩ := hgood
    have g1n : ¬ amount < 0 := by omega
    obtain ⟨hm12, hok⟩ := totB_out HE.out.2.2.1
    obtain ⟨sm, hsm⟩ : ∃ v, sumM ms = v := ⟨_, rfl⟩
    have Hsm := Lib.hid (rsum_in (cap2 := cap2) HE.out.2.1 hB hn2 (by omega) hok sm hsm)
    have hs0 : refundE ls total amount ms = if amount ≤ total ∧ sm = amount then 0 else 19 := by
      unfold refundE
      rw [if_pos ⟨HE.out.2.2.2, g1, HE.out.2.2.1⟩, hsm]
    have HS0 := Lib.hid hs0
    clear hsm hs0
    by_cases q1 : amount ≤ total
    · by_cases q2 : sm = amount
      · subst q2
        have q5 : (sm != sm) = false := by simp
        have q6 : ¬ total < sm := by omega
        have q7 : decide (total < sm) = false := decide_eq_false q6
        have g1d : decide (sm < 0) = false := decide_eq_false g1n
        have hs1 : refundE ls total sm ms = 0 := by rw [HS0.out, if_pos ⟨q1, rfl⟩]
        have hL : refundL ls total sm ms = payL ms 1 ++ (if total = 0 then [] else backL sm (partOf 1 ls) (partOf 2 ls) (partOf 3 ls)) := by unfold refundL; rw [if_pos hs1]
        obtain ⟨qZ, hqZ⟩ : ∃ q, (if total = 0 then [] else backL sm (partOf 1 ls) (partOf 2 ls) (partOf 3 ls)) = q := ⟨_, rfl⟩
        rw [hqZ] at hL
        have HqZ := Lib.hid hqZ
        clear hqZ
        rw [hL, hs1]
        clear hL hs1 HS0
        have HOk := Lib.hid (okM_in hok)
        go_enter Try.func17, Try.ntmps17
        go_upto_region 5 with (first
        | (go_at_call 33; refine Calls.mono (Hrgt.out _ ?bel) ?_; (case bel => (repeat (first | with_reducible exact Below.refl _ _ | with_reducible assumption | with_reducible refine Below.alloc0 ?_ _ | with_reducible refine Below.ext0 ?_ _ | with_reducible refine Below.drew ?_ | with_reducible refine below_drewN ?_ _ | (with_reducible refine Below.setCell (hp := ?hp) ?_ _; case hp => (first | (simp; done) | (simp; omega)))))); rintro e w' ⟨rfl, hb⟩; (first | (obtain ⟨u, rfl⟩ := ext_more hb; clear hb) | (obtain ⟨u, rfl⟩ := ext_more_alloc hb; clear hb) | (obtain ⟨u, rfl⟩ := ext_of hb; clear hb)))
        | (go_at_call 35; refine Calls.mono (Hfor.out _ ?bel) ?_; (case bel => (repeat (first | with_reducible exact Below.refl _ _ | with_reducible assumption | with_reducible refine Below.alloc0 ?_ _ | with_reducible refine Below.ext0 ?_ _ | with_reducible refine Below.drew ?_ | with_reducible refine below_drewN ?_ _ | (with_reducible refine Below.setCell (hp := ?hp) ?_ _; case hp => (first | (simp; done) | (simp; omega)))))); rintro e w' ⟨rfl, hb⟩; (first | (obtain ⟨u, rfl⟩ := ext_more hb; clear hb) | (obtain ⟨u, rfl⟩ := ext_more_alloc hb; clear hb) | (obtain ⟨u, rfl⟩ := ext_of hb; clear hb)))
        | (go_at_call 36; refine Calls.mono (Hsm.out _ ?bel) ?_; (case bel => (repeat (first | with_reducible exact Below.refl _ _ | with_reducible assumption | with_reducible refine Below.alloc0 ?_ _ | with_reducible refine Below.ext0 ?_ _ | with_reducible refine Below.drew ?_ | with_reducible refine below_drewN ?_ _ | (with_reducible refine Below.setCell (hp := ?hp) ?_ _; case hp => (first | (simp; done) | (simp; omega)))))); rintro e w' ⟨rfl, rfl⟩))
        refine forget (fun X => Below w.heap.size w X ∧ Bk X w.heap.size #[.slice A n cap, .int .i64 total] 24 ∧ Bk X (w.heap.size + 1) #[.int .i64 0, .slice none 0 0] 34) ⟨by (repeat (first | with_reducible exact Below.refl _ _ | with_reducible assumption | with_reducible refine Below.alloc0 ?_ _ | with_reducible refine Below.ext0 ?_ _ | with_reducible refine Below.drew ?_ | with_reducible refine below_drewN ?_ _ | (with_reducible refine Below.setCell (hp := ?hp) ?_ _; case hp => (first | (simp; done) | (simp; omega))))), (((Bk.new w _ _).alloc _).ext _), ((bk_new_at _ _ _ _ (by simp)).ext _)⟩ ?_
        rintro X ⟨hw, b0, b1⟩
        have HX := Lib.hid (And.intro hw (And.intro b0 b1))
        clear hw b0 b1 Hfor Hrgt Hsm
        have hmn : ms.length ≤ 100 := by omega
        go_wp2_with fail
        refine (paid_any A2 ms cap2 n2 1 X B (HE.out.2.1.keep (HX.out.1.mono hB) (Nat.le_refl _)) (by have := HX.out.1.size; omega) hn2 (by omega) HOk.out (.inl rfl)).mono ?_
        rintro e X2 ⟨v0, rfl, z1, z2, z3⟩
        obtain ⟨base, hbase⟩ : ∃ b, X.heap.size = b := ⟨_, rfl⟩
        have hX2 : Below X.heap.size X X2 := ⟨z2.os, z2.tape, z2.output, z2.size, fun k hk => z2.block k hk (by simp [Value.ownBlock])⟩
        rw [hbase] at z1
        have hsx := hX2.size
        have hlx := HX.out.2.2.lt
        have hlo := z1.lt
        have hwX2 : Below w.heap.size w X2 := HX.out.1.trans (hX2.mono HX.out.1.size)
        have HA := Lib.hid (And.intro hwX2 (And.intro (HX.out.2.1.below hX2) (And.intro (HX.out.2.2.below hX2) z1)))
        clear z1 z2 z3 hX2 hwX2 HX
        obtain ⟨qA, hq1⟩ : ∃ q, payL ms 1 = q := ⟨_, rfl⟩
        have hq1l : qA.length ≤ 12 := by
          rw [← hq1]
          have := payL_len ms 1 ms.length
          rw [List.take_length] at this
          omega
        rw [hq1] at HA
        have Hq1 := Lib.hid hq1
        clear hq1
        obtain ⟨A0x, c0x, hv0x, hc9, hm9⟩ := HA.out.2.2.2.form
        subst hv0x
        have HCM := Lib.hid (And.intro hc9 hm9)
        clear hc9 hm9
        go_upto_region 6 with (fail)
        refine forget (fun Y => Below w.heap.size w Y ∧ Bk Y w.heap.size #[.slice A n cap, .int .i64 total] 24 ∧ Bk Y (w.heap.size + 1) #[.int .i64 0, .slice none 0 0] 34 ∧ Bk Y X2.heap.size #[.int .i64 0, .slice A0x qA.length c0x] 34 ∧ OwnL tPst 55 Y base 0 (.slice A0x qA.length c0x) qA) ⟨HA.out.1.alloc HA.out.1.size _, HA.out.2.1.alloc _, HA.out.2.2.1.alloc _, Bk.new _ _ _, HA.out.2.2.2.below (below_self _ _) (by omega)⟩ ?_
        obtain ⟨bb, hbb⟩ : ∃ b, X2.heap.size = b := ⟨_, rfl⟩
        rw [hbb]
        have hne0 : ∀ g, (Value.slice A0x qA.length c0x).ownBlock = some g → g ≠ bb := fun g hg => by have := hlo g hg; omega
        have hwb : w.heap.size + 1 < base := by omega
        have hbb2 : base ≤ bb := by omega
        clear HA hlo hsx hlx
        rintro Y0 ⟨hw, b0, b1, b2, hown⟩
        have d0 := b0.cell
        have m0 := b0.lt
        have d2 := b2.cell
        have m2 := b2.lt
        have x1 := b1.cell
        have e1 := b1.free
        have l1 := b1.lt
        have hsY := hw.size
        have hol := hown.lt
        have HY0 := Lib.hid (And.intro hw (And.intro b0 (And.intro b1 (And.intro b2 hown))))
        clear hw b0 b1 b2 hown
        by_cases h0 : total = 0
        · have hz : qZ = [] := by rw [← HqZ.out, if_pos h0]
          clear HqZ
          subst h0
          have Hz := Lib.hid hz
          clear hz
          as_aux_lemma =>
          go_wp2_with fail
          have hz := Hz.out
          have ho9 : Only (fun g => g = w.heap.size + 1) Y0 ((Y0.setCell ⟨w.heap.size + 1, 0, none⟩ (.int .i64 0)).setCell ⟨w.heap.size + 1, 1, none⟩ (.slice A0x qA.length c0x)) := ((Only.refl (fun g => g = w.heap.size + 1) Y0).set_ (p := ⟨w.heap.size + 1, 0, none⟩) (.inl rfl) _).set_ (p := ⟨w.heap.size + 1, 1, none⟩) (.inl rfl) _
          have hE9 := (HY0.out.2.2.2.2.only ho9 (fun g hg => by omega) (by omega) (fun g hg h => by have := (hol g hg).1; omega)).elems (B2 := ((Y0.setCell ⟨w.heap.size + 1, 0, none⟩ (.int .i64 0)).setCell ⟨w.heap.size + 1, 1, none⟩ (.slice A0x qA.length c0x)).heap.size) (by omega) (Nat.le_refl _)
          have hB9 := HY0.out.1.trans (ho9.to_below (fun g hg => by omega) (HY0.out.1.size))
          rw [hz, List.append_nil, Hq1.out]
          exact bodyPost_ret (v := .tuple #[.agg #[.int .i64 0, .slice A0x qA.length c0x], .int .i64 0]) (by simp [results, Try.results17, go_sem, x1, e1, l1]) rfl (booked_some rfl hE9 HCM.out.1 HCM.out.2 hB9)
        · have hz : Hid (qZ = backL sm (partOf 1 ls) (partOf 2 ls) (partOf 3 ls)) := Lib.hid (by rw [← HqZ.out, if_neg h0])
          clear HqZ
          have q8 : (total == 0) = false := by simpa using h0
          obtain ⟨P1, hP1⟩ : ∃ v, partOf 1 ls = v := ⟨_, rfl⟩
          obtain ⟨P2, hP2⟩ : ∃ v, partOf 2 ls = v := ⟨_, rfl⟩
          obtain ⟨P3, hP3⟩ : ∃ v, partOf 3 ls = v := ⟨_, rfl⟩
          obtain ⟨hall, hsum, ht0, ht1⟩ := right_out HE.out.2.2.2
          have b1 := partOf_bd 1 ls hall
          have b2 := partOf_bd 2 ls hall
          have b3 := partOf_bd 3 ls hall
          have hp := parts_sum ls hall
          rw [hsum] at b1 b2 b3 hp
          rw [hP1] at b1 hp
          rw [hP2] at b2 hp
          rw [hP3] at b3 hp
          have Hof1 := Lib.hid (rof_in (cap := cap) (total := total) HE.out.1 hB hn hl hall 1 (by omega) P1 hP1)
          have Hof2 := Lib.hid (rof_in (cap := cap) (total := total) HE.out.1 hB hn hl hall 2 (by omega) P2 hP2)
          have Hof3 := Lib.hid (rof_in (cap := cap) (total := total) HE.out.1 hB hn hl hall 3 (by omega) P3 hP3)
          have hz : Hid (qZ = backL sm P1 P2 P3) := Lib.hid (by rw [← hP1, ← hP2, ← hP3]; exact hz.out)
          clear hP1 hP2 hP3 hall hsum
          go_upto_region 8 with (fail)
          refine region_planx Y0 [([0, 1, 3, 5], [2, 4, 6, 7, 8]), ([9, 10, 11, 12, 13], [])] (Below.refl _ _) (by kernel_rfl) (by kernel_rfl) (fun u => ?_)
          refine plan_take (fun K9 h9 => ?_)
          simp only [List.map_cons, List.map_nil, pickO, List.getD_cons_zero, List.getD_cons_succ]
          repeat (go_big_quiet_step (fail))
          refine wpQuiet_nil (h9 _ ?_)
          clear h9 K9
          refine plan_run (fun K9 h9 => ?_)
          simp only [pickO, List.getD_cons_zero, List.getD_cons_succ]
          go_wp2_with (go_at_call 39; refine Calls.mono (Hof1.out _ (Below.ext0 HY0.out.1 _)) ?_; rintro e w' ⟨rfl, hbb⟩; obtain ⟨u, rfl⟩ := ext_more hbb; clear hbb)
          refine h9 _ _ mem_ext ?_
          clear h9 K9
          refine plan_run (fun K9 h9 => ?_)
          simp only [pickO, List.getD_cons_zero, List.getD_cons_succ]
          go_wp2_with (go_at_call 39; refine Calls.mono (Hof2.out _ (Below.ext0 HY0.out.1 _)) ?_; rintro e w' ⟨rfl, hbb⟩; obtain ⟨u, rfl⟩ := ext_more hbb; clear hbb)
          refine h9 _ _ mem_ext ?_
          clear h9 K9
          refine plan_run (fun K9 h9 => ?_)
          simp only [pickO, List.getD_cons_zero, List.getD_cons_succ]
          go_wp2_with (go_at_call 39; refine Calls.mono (Hof3.out _ (Below.ext0 HY0.out.1 _)) ?_; rintro e w' ⟨rfl, hbb⟩; obtain ⟨u, rfl⟩ := ext_more hbb; clear hbb)
          refine h9 _ _ mem_ext ?_
          clear h9 K9
          refine plan_run (fun K9 h9 => ?_)
          simp only [pickO, List.getD_cons_zero, List.getD_cons_succ]
          go_wp2_with fail
          refine h9 _ _ (mem_ext_alloc (X := Y0)) ?_
          clear h9 K9 Hof1 Hof2 Hof3
          have gn : goodW sm := ⟨g1, by omega⟩
          have ga : goodW P1 := ⟨b1.1, by omega⟩
          have gb : goodW P2 := ⟨b2.1, by omega⟩
          have gc : goodW P3 := ⟨b3.1, by omega⟩
          refine plan_run (fun K9 h9 => ?_)
          simp only [pickO, List.getD_cons_zero, List.getD_cons_succ]
          obtain ⟨s1, hs1⟩ : ∃ s, (splitP sm P1 P2 P3).1 = s := ⟨_, rfl⟩
          obtain ⟨s2, hs2⟩ : ∃ s, (splitP sm P1 P2 P3).2.1 = s := ⟨_, rfl⟩
          obtain ⟨s3, hs3⟩ : ∃ s, (splitP sm P1 P2 P3).2.2 = s := ⟨_, rfl⟩
          have hsl := split_le gn ga gb gc (by omega)
          have Hbl : Hid (qZ = partsL (-s1) (-s2) (-s3)) := Lib.hid (by rw [hz.out]; show partsL _ _ _ = _; rw [hs1, hs2, hs3])
          rw [hs1, hs2, hs3] at hsl
          obtain ⟨⟨u1, u2⟩, ⟨u3, u4⟩, u5, u6⟩ := hsl
          go_wp2_with (go_at_call 44; refine Calls.mono (rsplit_any sm P1 P2 P3 _ _ (Bk.new _ _ _) gn ga gb gc (by omega) (by omega)) ?_; rintro e w' ⟨ob, rfl, y1, y2⟩; rw [hs1, hs2, hs3] at y1; have Hy1 := Lib.hid y1; clear y1; obtain ⟨u, rfl⟩ := ext_more_alloc y2; clear y2)
          refine h9 _ _ mem_ext ?_
          clear h9 K9
          refine plan_next ?_
          refine plan_take (fun K9 h9 => ?_)
          simp only [List.map_cons, List.map_nil, pickO, List.getD_cons_zero, List.getD_cons_succ]
          repeat (go_big_quiet_step (fail))
          refine wpQuiet_nil (h9 _ ?_)
          clear h9 K9
          refine plan_next (plan_end ?_)
          go_upto_region 9 with (fail)
          refine forget (fun Y => Below w.heap.size w Y ∧ Bk Y (w.heap.size + 1) #[.int .i64 0, .slice none 0 0] 34 ∧ Bk Y bb #[.int .i64 0, .slice A0x qA.length c0x] 34 ∧ OwnL tPst 55 Y base 0 (.slice A0x qA.length c0x) qA ∧ Bk Y ob #[.int .i64 s1, .int .i64 s2, .int .i64 s3] 3) ⟨Below.ext0 HY0.out.1 _, HY0.out.2.2.1.ext _, HY0.out.2.2.2.1.ext _, HY0.out.2.2.2.2.below (below_ext _ _) (by omega), Hy1.out⟩ ?_
          clear HY0 Hy1 d0 m0 d2 m2 x1 e1 l1 hsY hol hs1 hs2 hs3 gn ga gb gc b1 b2 b3 hp hz
          rintro Z0 ⟨hw, b1, b2, hown, b3⟩
          have d2 := b2.cell
          have m2 := b2.lt
          have x2 := b2.free
          have d3 := b3.cell
          have m3 := b3.lt
          have hsY := hw.size
          have hol := hown.lt
          have hob := other_ownL hown b3 (by decide)
          have hbo := bk_ne b2 b3 (by decide)
          have HY0 := Lib.hid (And.intro hw.drew (And.intro b1.drew (And.intro b2.drew (And.intro (hown.below ((Below.refl _ Z0).drew) (by omega)) b3.drew))))
          clear hw b1 b2 hown b3
          go_wp2_with fail
          refine wp_region_tail 5 (by kernel_rfl) (by kernel_rfl) ?_
          simp only [List.take_succ_cons, List.take_zero, List.drop_succ_cons, List.drop_zero]
          repeat (go_big_quiet_step (fail))
          refine wpQuiet_nil ?_
          go_upto_region 10 with (
            go_at_call 38
            refine (rpost_any base (.slice A0x qA.length c0x) qA 2 noName (-s1) _ HY0.out.2.2.2.1 (by show base ≤ Z0.heap.size; omega) (by omega) (by show _ ≤ (2:Int) ∧ (2:Int) ≤ _; omega) (by show 0 ≤ maxLen; omega) (by show _ ≤ -s1 ∧ -s1 ≤ _; omega)).mono ?_
            rintro e X4 ⟨v1, rfl, z1, z2, z3⟩
            have hs4 : Z0.heap.size ≤ X4.heap.size := z2.size
            have hw4 : Below w.heap.size w X4 := HY0.out.1.trans (z2.to_below (fun g hg => by have := (hol g hg).1; omega) (by show _ ≤ Z0.heap.size; omega))
            have b1 := HY0.out.2.1.only z2 (fun h => by have := (hol _ h).1; omega)
            have b2 := HY0.out.2.2.1.only z2 (fun h => hne0 _ h rfl)
            have b3 := HY0.out.2.2.2.2.only z2 (fun h => hob h.symm)
            have hne1 : ∀ g, v1.ownBlock = some g → g ≠ bb := fun g hg => by
              rcases z3 g hg with h | h
              · exact hne0 g h
              · have h : Z0.heap.size ≤ g := h
                omega
            obtain ⟨q1, hq1⟩ : ∃ q, qA ++ postL [((2, noName), -s1)] = q := ⟨_, rfl⟩
            rw [hq1] at z1
            have Hq1x0 := Lib.hid hq1
            obtain ⟨A1, c1, hv1, hc9, hm9⟩ := z1.form
            subst hv1
            have hlq1 : q1.length ≤ 13 := by rw [← Hq1x0.out, List.length_append]; have := post_one_len ((2, noName), -s1); omega
            have HCM5 := Lib.hid (And.intro hc9 hm9)
            have HZ0 := Lib.hid (And.intro hw4 (And.intro b1 (And.intro b2 (And.intro z1 b3))))
            have y2 := b2.cell
            have e2 := b2.free
            have l2 := b2.lt
            have x1 := b1.cell
            have e1 := b1.free
            have l1 := b1.lt
            have hzl := z1.lt
            clear z1 z2 z3 hw4 b1 b2 b3 hq1 hc9 hm9 d2 m2 x2 d3 m3 hol)
          have ho9 : Only (fun g => g = bb) X4 ((X4.setCell ⟨bb, 0, none⟩ (.int .i64 0)).setCell ⟨bb, 1, none⟩ (.slice A1 q1.length c1)) := ((Only.refl (fun g => g = bb) X4).set_ (p := ⟨bb, 0, none⟩) (.inl rfl) _).set_ (p := ⟨bb, 1, none⟩) (.inl rfl) _
          refine forget (fun Y => Below w.heap.size w Y ∧ Bk Y (w.heap.size + 1) #[.int .i64 0, .slice none 0 0] 34 ∧ Bk Y bb #[.int .i64 0, .slice A1 q1.length c1] 34 ∧ OwnL tPst 55 Y base 0 (.slice A1 q1.length c1) q1 ∧ Bk Y ob #[.int .i64 s1, .int .i64 s2, .int .i64 s3] 3) ⟨HZ0.out.1.trans (ho9.to_below (fun g hg => by omega) HZ0.out.1.size), HZ0.out.2.1.only ho9 (by omega), (HZ0.out.2.2.1.set_ 0 _).set_ 1 _, HZ0.out.2.2.2.1.only ho9 (fun g hg => by omega) (by omega) (fun g hg h => hne1 g hg h), HZ0.out.2.2.2.2.only ho9 (fun h => hbo h.symm)⟩ ?_
          clear hne0
          have hne0 := hne1
          clear ho9 HZ0 HCM5 y2 e2 l2 x1 e1 l1 hzl hne1 hob hbo
          rintro Z1 ⟨hw, b1, b2, hown, b3⟩
          have d2 := b2.cell
          have m2 := b2.lt
          have x2 := b2.free
          have d3 := b3.cell
          have m3 := b3.lt
          have hsY := hw.size
          have hol := hown.lt
          have hob := other_ownL hown b3 (by decide)
          have hbo := bk_ne b2 b3 (by decide)
          have HY1 := Lib.hid (And.intro hw.drew (And.intro b1.drew (And.intro b2.drew (And.intro (hown.below ((Below.refl _ Z1).drew) (by omega)) b3.drew))))
          clear hw b1 b2 hown b3
          go_wp2_with fail
          refine wp_region_tail 5 (by kernel_rfl) (by kernel_rfl) ?_
          simp only [List.take_succ_cons, List.take_zero, List.drop_succ_cons, List.drop_zero]
          repeat (go_big_quiet_step (fail))
          refine wpQuiet_nil ?_
          go_upto_region 11 with (
            go_at_call 38
            refine (rpost_any base (.slice A1 q1.length c1) q1 1 noName (-s2) _ HY1.out.2.2.2.1 (by show base ≤ Z1.heap.size; omega) (by omega) (by show _ ≤ (1:Int) ∧ (1:Int) ≤ _; omega) (by show 0 ≤ maxLen; omega) (by show _ ≤ -s2 ∧ -s2 ≤ _; omega)).mono ?_
            rintro e X5 ⟨v1, rfl, z1, z2, z3⟩
            have hs4 : Z1.heap.size ≤ X5.heap.size := z2.size
            have hw4 : Below w.heap.size w X5 := HY1.out.1.trans (z2.to_below (fun g hg => by have := (hol g hg).1; omega) (by show _ ≤ Z1.heap.size; omega))
            have b1 := HY1.out.2.1.only z2 (fun h => by have := (hol _ h).1; omega)
            have b2 := HY1.out.2.2.1.only z2 (fun h => hne0 _ h rfl)
            have b3 := HY1.out.2.2.2.2.only z2 (fun h => hob h.symm)
            have hne1 : ∀ g, v1.ownBlock = some g → g ≠ bb := fun g hg => by
              rcases z3 g hg with h | h
              · exact hne0 g h
              · have h : Z1.heap.size ≤ g := h
                omega
            obtain ⟨q2, hq1⟩ : ∃ q, q1 ++ postL [((1, noName), -s2)] = q := ⟨_, rfl⟩
            rw [hq1] at z1
            have Hq1x1 := Lib.hid hq1
            obtain ⟨A2x, c2x, hv1, hc9, hm9⟩ := z1.form
            subst hv1
            have hlq2 : q2.length ≤ 14 := by rw [← Hq1x1.out, List.length_append]; have := post_one_len ((1, noName), -s2); omega
            have HCM6 := Lib.hid (And.intro hc9 hm9)
            have HZ1 := Lib.hid (And.intro hw4 (And.intro b1 (And.intro b2 (And.intro z1 b3))))
            have y2 := b2.cell
            have e2 := b2.free
            have l2 := b2.lt
            have x1 := b1.cell
            have e1 := b1.free
            have l1 := b1.lt
            have hzl := z1.lt
            clear z1 z2 z3 hw4 b1 b2 b3 hq1 hc9 hm9 d2 m2 x2 d3 m3 hol)
          have ho9 : Only (fun g => g = bb) X5 ((X5.setCell ⟨bb, 0, none⟩ (.int .i64 0)).setCell ⟨bb, 1, none⟩ (.slice A2x q2.length c2x)) := ((Only.refl (fun g => g = bb) X5).set_ (p := ⟨bb, 0, none⟩) (.inl rfl) _).set_ (p := ⟨bb, 1, none⟩) (.inl rfl) _
          refine forget (fun Y => Below w.heap.size w Y ∧ Bk Y (w.heap.size + 1) #[.int .i64 0, .slice none 0 0] 34 ∧ Bk Y bb #[.int .i64 0, .slice A2x q2.length c2x] 34 ∧ OwnL tPst 55 Y base 0 (.slice A2x q2.length c2x) q2 ∧ Bk Y ob #[.int .i64 s1, .int .i64 s2, .int .i64 s3] 3) ⟨HZ1.out.1.trans (ho9.to_below (fun g hg => by omega) HZ1.out.1.size), HZ1.out.2.1.only ho9 (by omega), (HZ1.out.2.2.1.set_ 0 _).set_ 1 _, HZ1.out.2.2.2.1.only ho9 (fun g hg => by omega) (by omega) (fun g hg h => hne1 g hg h), HZ1.out.2.2.2.2.only ho9 (fun h => hbo h.symm)⟩ ?_
          clear hne0
          have hne0 := hne1
          clear ho9 HZ1 HCM6 y2 e2 l2 x1 e1 l1 hzl hne1 hob hbo
          rintro Z2 ⟨hw, b1, b2, hown, b3⟩
          have d2 := b2.cell
          have m2 := b2.lt
          have x2 := b2.free
          have d3 := b3.cell
          have m3 := b3.lt
          have hsY := hw.size
          have hol := hown.lt
          have hob := other_ownL hown b3 (by decide)
          have hbo := bk_ne b2 b3 (by decide)
          have HY2 := Lib.hid (And.intro hw.drew (And.intro b1.drew (And.intro b2.drew (And.intro (hown.below ((Below.refl _ Z2).drew) (by omega)) b3.drew))))
          clear hw b1 b2 hown b3
          go_wp2_with fail
          refine wp_region_tail 5 (by kernel_rfl) (by kernel_rfl) ?_
          simp only [List.take_succ_cons, List.take_zero, List.drop_succ_cons, List.drop_zero]
          repeat (go_big_quiet_step (fail))
          refine wpQuiet_nil ?_
          go_wp2_with (
            go_at_call 38
            refine (rpost_any base (.slice A2x q2.length c2x) q2 3 noName (-s3) _ HY2.out.2.2.2.1 (by show base ≤ Z2.heap.size; omega) (by omega) (by show _ ≤ (3:Int) ∧ (3:Int) ≤ _; omega) (by show 0 ≤ maxLen; omega) (by show _ ≤ -s3 ∧ -s3 ≤ _; omega)).mono ?_
            rintro e X6 ⟨v1, rfl, z1, z2, z3⟩
            have hs4 : Z2.heap.size ≤ X6.heap.size := z2.size
            have hw4 : Below w.heap.size w X6 := HY2.out.1.trans (z2.to_below (fun g hg => by have := (hol g hg).1; omega) (by show _ ≤ Z2.heap.size; omega))
            have b1 := HY2.out.2.1.only z2 (fun h => by have := (hol _ h).1; omega)
            have b2 := HY2.out.2.2.1.only z2 (fun h => hne0 _ h rfl)
            have b3 := HY2.out.2.2.2.2.only z2 (fun h => hob h.symm)
            have hne1 : ∀ g, v1.ownBlock = some g → g ≠ bb := fun g hg => by
              rcases z3 g hg with h | h
              · exact hne0 g h
              · have h : Z2.heap.size ≤ g := h
                omega
            obtain ⟨q3, hq1⟩ : ∃ q, q2 ++ postL [((3, noName), -s3)] = q := ⟨_, rfl⟩
            rw [hq1] at z1
            have Hq1x2 := Lib.hid hq1
            obtain ⟨A9, c9, hv1, hc9, hm9⟩ := z1.form
            subst hv1
            have hlq3 : q3.length ≤ 15 := by rw [← Hq1x2.out, List.length_append]; have := post_one_len ((3, noName), -s3); omega
            have HCM7 := Lib.hid (And.intro hc9 hm9)
            have HZ2 := Lib.hid (And.intro hw4 (And.intro b1 (And.intro b2 (And.intro z1 b3))))
            have y2 := b2.cell
            have e2 := b2.free
            have l2 := b2.lt
            have x1 := b1.cell
            have e1 := b1.free
            have l1 := b1.lt
            have hzl := z1.lt
            clear z1 z2 z3 hw4 b1 b2 b3 hq1 hc9 hm9 d2 m2 x2 d3 m3 hol)
          have ho9 : Only (fun g => g = w.heap.size + 1) X6 ((X6.setCell ⟨w.heap.size + 1, 0, none⟩ (.int .i64 0)).setCell ⟨w.heap.size + 1, 1, none⟩ (.slice A9 q3.length c9)) := ((Only.refl (fun g => g = w.heap.size + 1) X6).set_ (p := ⟨w.heap.size + 1, 0, none⟩) (.inl rfl) _).set_ (p := ⟨w.heap.size + 1, 1, none⟩) (.inl rfl) _
          have hE9 := (HZ2.out.2.2.2.1.only ho9 (fun g hg => by omega) (by omega) (fun g hg h => by have := (hzl g hg).1; omega)).elems (B2 := ((X6.setCell ⟨w.heap.size + 1, 0, none⟩ (.int .i64 0)).setCell ⟨w.heap.size + 1, 1, none⟩ (.slice A9 q3.length c9)).heap.size) (by omega) (Nat.le_refl _)
          have hB9 := HZ2.out.1.trans (ho9.to_below (fun g hg => by omega) (HZ2.out.1.size))
          have hfin : payL ms 1 ++ qZ = q3 := by
            rw [Hq1.out, Hbl.out, ← Hq1x2.out, ← Hq1x1.out, ← Hq1x0.out, List.append_assoc, List.append_assoc]
            congr 1
            unfold partsL postL
            rw [← List.filter_append, ← List.filter_append]
            rfl
          rw [hfin]
          exact bodyPost_ret (v := .tuple #[.agg #[.int .i64 0, .slice A9 q3.length c9], .int .i64 0]) (by simp [results, Try.results17, go_sem, x1, e1, l1]) rfl (booked_some rfl hE9 HCM7.out.1 HCM7.out.2 hB9)
      · have hs1 : refundE ls total amount ms = 19 := by rw [HS0.out, if_neg (fun h => q2 h.2)]
        have hL : refundL ls total amount ms = [] := by unfold refundL; rw [if_neg (by rw [hs1]; decide)]
        rw [hL, hs1]
        have q5 : (sm != amount) = true := by simpa using q2
        have q6 : ¬ total < amount := by omega
        have q7 : decide (total < amount) = false := decide_eq_false q6
        clear hL hs1 HE HS0
        as_aux_lemma =>
        go_enter Try.func17, Try.ntmps17
        go_wp2_with (first
        | (go_at_call 33; refine Calls.mono (Hrgt.out _ ?bel) ?_; (case bel => (repeat (first | with_reducible exact Below.refl _ _ | with_reducible assumption | with_reducible refine Below.alloc0 ?_ _ | with_reducible refine Below.ext0 ?_ _ | with_reducible refine Below.drew ?_ | with_reducible refine below_drewN ?_ _ | (with_reducible refine Below.setCell (hp := ?hp) ?_ _; case hp => (first | (simp; done) | (simp; omega)))))); rintro e w' ⟨rfl, hb⟩; (first | (obtain ⟨u, rfl⟩ := ext_more hb; clear hb) | (obtain ⟨u, rfl⟩ := ext_more_alloc hb; clear hb) | (obtain ⟨u, rfl⟩ := ext_of hb; clear hb)))
        | (go_at_call 35; refine Calls.mono (Hfor.out _ ?bel) ?_; (case bel => (repeat (first | with_reducible exact Below.refl _ _ | with_reducible assumption | with_reducible refine Below.alloc0 ?_ _ | with_reducible refine Below.ext0 ?_ _ | with_reducible refine Below.drew ?_ | with_reducible refine below_drewN ?_ _ | (with_reducible refine Below.setCell (hp := ?hp) ?_ _; case hp => (first | (simp; done) | (simp; omega)))))); rintro e w' ⟨rfl, hb⟩; (first | (obtain ⟨u, rfl⟩ := ext_more hb; clear hb) | (obtain ⟨u, rfl⟩ := ext_more_alloc hb; clear hb) | (obtain ⟨u, rfl⟩ := ext_of hb; clear hb)))
        | (go_at_call 36; refine Calls.mono (Hsm.out _ ?bel) ?_; (case bel => (repeat (first | with_reducible exact Below.refl _ _ | with_reducible assumption | with_reducible refine Below.alloc0 ?_ _ | with_reducible refine Below.ext0 ?_ _ | with_reducible refine Below.drew ?_ | with_reducible refine below_drewN ?_ _ | (with_reducible refine Below.setCell (hp := ?hp) ?_ _; case hp => (first | (simp; done) | (simp; omega)))))); rintro e w' ⟨rfl, rfl⟩))
        all_goals exact bodyPost_ret (v := .tuple #[.agg #[.int .i64 0, .slice none 0 0], .int .i64 19]) (by simp [results, Try.results17, go_sem]) rfl (booked_none (by (repeat (first | with_reducible exact Below.refl _ _ | with_reducible assumption | with_reducible refine Below.alloc0 ?_ _ | with_reducible refine Below.ext0 ?_ _ | with_reducible refine Below.drew ?_ | with_reducible refine below_drewN ?_ _ | (with_reducible refine Below.setCell (hp := ?hp) ?_ _; case hp => (first | (simp; done) | (simp; omega)))))) rfl)
    · have hs1 : refundE ls total amount ms = 19 := by rw [HS0.out, if_neg (fun h => q1 h.1)]
      have hL : refundL ls total amount ms = [] := by unfold refundL; rw [if_neg (by rw [hs1]; decide)]
      rw [hL, hs1]
      have q6 : total < amount := by omega
      have q7 : decide (total < amount) = true := decide_eq_true q6
      clear hL hs1 HE HS0
      as_aux_lemma =>
      go_enter Try.func17, Try.ntmps17
      go_wp2_with (first
        | (go_at_call 33; refine Calls.mono (Hrgt.out _ ?bel) ?_; (case bel => (repeat (first | with_reducible exact Below.refl _ _ | with_reducible assumption | with_reducible refine Below.alloc0 ?_ _ | with_reducible refine Below.ext0 ?_ _ | with_reducible refine Below.drew ?_ | with_reducible refine below_drewN ?_ _ | (with_reducible refine Below.setCell (hp := ?hp) ?_ _; case hp => (first | (simp; done) | (simp; omega)))))); rintro e w' ⟨rfl, hb⟩; (first | (obtain ⟨u, rfl⟩ := ext_more hb; clear hb) | (obtain ⟨u, rfl⟩ := ext_more_alloc hb; clear hb) | (obtain ⟨u, rfl⟩ := ext_of hb; clear hb)))
        | (go_at_call 35; refine Calls.mono (Hfor.out _ ?bel) ?_; (case bel => (repeat (first | with_reducible exact Below.refl _ _ | with_reducible assumption | with_reducible refine Below.alloc0 ?_ _ | with_reducible refine Below.ext0 ?_ _ | with_reducible refine Below.drew ?_ | with_reducible refine below_drewN ?_ _ | (with_reducible refine Below.setCell (hp := ?hp) ?_ _; case hp => (first | (simp; done) | (simp; omega)))))); rintro e w' ⟨rfl, hb⟩; (first | (obtain ⟨u, rfl⟩ := ext_more hb; clear hb) | (obtain ⟨u, rfl⟩ := ext_more_alloc hb; clear hb) | (obtain ⟨u, rfl⟩ := ext_of hb; clear hb)))
        | (go_at_call 36; refine Calls.mono (Hsm.out _ ?bel) ?_; (case bel => (repeat (first | with_reducible exact Below.refl _ _ | with_reducible assumption | with_reducible refine Below.alloc0 ?_ _ | with_reducible refine Below.ext0 ?_ _ | with_reducible refine Below.drew ?_ | with_reducible refine below_drewN ?_ _ | (with_reducible refine Below.setCell (hp := ?hp) ?_ _; case hp => (first | (simp; done) | (simp; omega)))))); rintro e w' ⟨rfl, rfl⟩))
      all_goals exact bodyPost_ret (v := .tuple #[.agg #[.int .i64 0, .slice none 0 0], .int .i64 19]) (by simp [results, Try.results17, go_sem]) rfl (booked_none (by (repeat (first | with_reducible exact Below.refl _ _ | with_reducible assumption | with_reducible refine Below.alloc0 ?_ _ | with_reducible refine Below.ext0 ?_ _ | with_reducible refine Below.drew ?_ | with_reducible refine below_drewN ?_ _ | (with_reducible refine Below.setCell (hp := ?hp) ?_ _; case hp => (first | (simp; done) | (simp; omega)))))) rfl)
  · have hs1 : refundE ls total amount ms = 1 := by
      unfold refundE
      rw [if_neg]
      rw [HE.out.2.2.1, HE.out.2.2.2]
      exact hgood
    have hL : refundL ls total amount ms = [] := by unfold refundL; rw [if_neg (by rw [hs1]; decide)]
    rw [hL, hs1]
    clear hL hs1 HE
    have hno : r = false ∨ (r = true ∧ amount < 0) ∨ (r = true ∧ 0 ≤ amount ∧ tb = false) := by
      cases r
      · exact .inl rfl
      · by_cases h1 : amount < 0
        · exact .inr (.inl ⟨rfl, h1⟩)
        · cases tb
          · exact .inr (.inr ⟨rfl, by omega, rfl⟩)
          · exact absurd ⟨rfl, by omega, rfl⟩ hgood
    clear hgood
    rcases hno with rfl | ⟨rfl, h1⟩ | ⟨rfl, h1, rfl⟩
    all_goals as_aux_lemma =>
      go_enter Try.func17, Try.ntmps17
      go_wp2_with (first
        | (go_at_call 33; refine Calls.mono (Hrgt.out _ ?bel) ?_; (case bel => (repeat (first | with_reducible exact Below.refl _ _ | with_reducible assumption | with_reducible refine Below.alloc0 ?_ _ | with_reducible refine Below.ext0 ?_ _ | with_reducible refine Below.drew ?_ | with_reducible refine below_drewN ?_ _ | (with_reducible refine Below.setCell (hp := ?hp) ?_ _; case hp => (first | (simp; done) | (simp; omega)))))); rintro e w' ⟨rfl, hb⟩; (first | (obtain ⟨u, rfl⟩ := ext_more hb; clear hb) | (obtain ⟨u, rfl⟩ := ext_more_alloc hb; clear hb) | (obtain ⟨u, rfl⟩ := ext_of hb; clear hb)))
        | (go_at_call 35; refine Calls.mono (Hfor.out _ ?bel) ?_; (case bel => (repeat (first | with_reducible exact Below.refl _ _ | with_reducible assumption | with_reducible refine Below.alloc0 ?_ _ | with_reducible refine Below.ext0 ?_ _ | with_reducible refine Below.drew ?_ | with_reducible refine below_drewN ?_ _ | (with_reducible refine Below.setCell (hp := ?hp) ?_ _; case hp => (first | (simp; done) | (simp; omega)))))); rintro e w' ⟨rfl, hb⟩; (first | (obtain ⟨u, rfl⟩ := ext_more hb; clear hb) | (obtain ⟨u, rfl⟩ := ext_more_alloc hb; clear hb) | (obtain ⟨u, rfl⟩ := ext_of hb; clear hb)))
        | (go_at_call 36; refine Calls.mono (Hsm.out _ ?bel) ?_; (case bel => (repeat (first | with_reducible exact Below.refl _ _ | with_reducible assumption | with_reducible refine Below.alloc0 ?_ _ | with_reducible refine Below.ext0 ?_ _ | with_reducible refine Below.drew ?_ | with_reducible refine below_drewN ?_ _ | (with_reducible refine Below.setCell (hp := ?hp) ?_ _; case hp => (first | (simp; done) | (simp; omega)))))); rintro e w' ⟨rfl, rfl⟩))
      all_goals exact bodyPost_ret (v := .tuple #[.agg #[.int .i64 0, .slice none 0 0], .int .i64 1]) (by simp [results, Try.results17, go_sem]) rfl (booked_none (by (repeat (first | with_reducible exact Below.refl _ _ | with_reducible assumption | with_reducible refine Below.alloc0 ?_ _ | with_reducible refine Below.ext0 ?_ _ | with_reducible refine Below.drew ?_ | with_reducible refine below_drewN ?_ _ | (with_reducible refine Below.setCell (hp := ?hp) ?_ _; case hp => (first | (simp; done) | (simp; omega)))))) rfl)
end Go.Proofs.Ytggmihnhdojepaa
