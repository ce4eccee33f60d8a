/- ResolveMeans: a rule has a zone with the facts exactly if the tests of one of its alternatives hold, for every rules, hall and facts; no condition. -/
import Derived.Test.YtecjhniomjmocaaResXb
import Derived.Deep.RegionHeld3
namespace Go.Proofs.Ytecjhniomjmocaa
open Go.RowKit Go.ChangeAt
set_option linter.unusedVariables false
set_option linter.unusedSimpArgs false
attribute [local go_sem] ext_cell ext_frozen lt_ext ext_drew

set_option maxRecDepth 100000 in
set_option maxHeartbeats 4000000 in
theorem means12 (A : Option Addr) (its : List It) (cap : Nat) (hn : ByteArray) (x y : Int) (AH : Option Addr) (lh : List Le) (ch : Nat) (f : Fc) (w : World) (h : Elems tIt w w.heap.size A its) (hh : Elems tLe w w.heap.size AH lh) (hcap : its.length ≤ cap) (hcm : cap ≤ 9223372036854775807) (hlh : lh.length ≤ 9223372036854775807) (hf : f.length = 10) :
    Calls Try.prog 4 #[.agg #[.slice A its.length cap], .agg #[.string hn, .int .i64 x, .int .i64 y, .slice AH lh.length ch], .agg (fcV f)] w fun e w' => e = .returned (.bool true) ∧ Below w.heap.size w w' := by
  have HH := Lib.hid (And.intro h hh)
  clear h hh
  go_enter Try.func4, Try.ntmps4
  go_wp2_with fail
  refine (head_any _).mono ?_
  rintro e w1 ⟨rfl, hb⟩
  have HB := Lib.hid hb
  clear hb
  go_upto_region 2 with (fail)
  refine forget (fun W => Below w.heap.size w W ∧ Bk W w.heap.size #[.slice A its.length cap] 24 ∧ Bk W (w.heap.size + 1) #[.string hn, .int .i64 x, .int .i64 y, .slice AH lh.length ch] 29 ∧ Bk W (w.heap.size + 1 + 1) (fcV f) 48) ⟨Below.trans0 (Below.alloc0 (Below.alloc0 (below_self _ _) _) _) HB.out, (((Bk.new w _ _).alloc _).alloc _).below HB.out, ((bk_next w _ _ _).alloc _).below HB.out, (bk_new_at _ _ _ _ (by simp)).below HB.out⟩ ?_
  clear HB
  rintro W ⟨hw, b0, b1, b2⟩
  have c0 := b0.cell
  have c1 := b1.cell
  have l0 := b0.lt
  have l1 := b1.lt
  have l2 := b2.lt
  have HW := Lib.hid (And.intro hw (And.intro b0 (And.intro b1 b2)))
  clear hw b0 b1 b2
  obtain ⟨q1, hq1⟩ : ∃ v, fewB its = v := ⟨_, rfl⟩
  obtain ⟨q2, hq2⟩ : ∃ v, smallB lh = v := ⟨_, rfl⟩
  obtain ⟨q3, hq3⟩ : ∃ v, inZ limZ f = v := ⟨_, rfl⟩
  have HQ1 := Lib.hid hq1
  have HQ2 := Lib.hid hq2
  have HQ3 := Lib.hid hq3
  have HF := Lib.hid hf
  have hin : its.length ≤ 9223372036854775807 := by omega
  clear hq1 hq2 hq3 hf
  cases q1
  · refine wp_region_ext W (by kernel_rfl) (by kernel_rfl) ?_
    repeat (go_big_quiet_step ((first | (go_at_call 10; exact Calls.in_ext (few_in HH.out.1 hin _ HQ1.out _ (Below.ext0 HW.out.1 _))) | (go_at_call 11; exact Calls.in_ext (small_in HH.out.2 hlh _ HQ2.out _ (Below.ext0 HW.out.1 _))))))
    refine wpQuiet_nil (fun v => ?_)
    go_wp2_with fail
    go_ret
    exact ⟨rfl, Below.ext0 HW.out.1 _⟩
  cases q2
  · refine wp_region_ext W (by kernel_rfl) (by kernel_rfl) ?_
    repeat (go_big_quiet_step ((first | (go_at_call 10; exact Calls.in_ext (few_in HH.out.1 hin _ HQ1.out _ (Below.ext0 HW.out.1 _))) | (go_at_call 11; exact Calls.in_ext (small_in HH.out.2 hlh _ HQ2.out _ (Below.ext0 HW.out.1 _))))))
    refine wpQuiet_nil (fun v => ?_)
    go_wp2_with fail
    go_ret
    exact ⟨rfl, Below.ext0 HW.out.1 _⟩
  cases q3
  · refine wp_region_ext W (by kernel_rfl) (by kernel_rfl) ?_
    iterate 9 (go_big_quiet_step ((first | (go_at_call 10; exact Calls.in_ext (few_in HH.out.1 hin _ HQ1.out _ (Below.ext0 HW.out.1 _))) | (go_at_call 11; exact Calls.in_ext (small_in HH.out.2 hlh _ HQ2.out _ (Below.ext0 HW.out.1 _))))))
    go_big_quiet_step ((go_at_call 14; exact Calls.in_ext (limits_any _)))
    go_big_quiet_want
    refine quiet_load_at _ _ rfl (w.heap.size + 1 + 1) 0 rfl (fcV f) _ (fun w9 hw9 j u hu => by obtain ⟨u9, rfl⟩ := hw9; rw [ext_cell _ _ l2, Nat.zero_add, HW.out.2.2.2.cell]; exact hu) Try.underlying48 rfl (by rw [fcV_size HF.out]; kernel_rfl) ?_
    go_simp
    go_big_quiet_on
    go_big_quiet_step ((go_at_call 18; exact Calls.in_ext (in_any limZ f _ rfl HF.out _ HQ3.out)))
    repeat (go_big_quiet_step (fail))
    refine wpQuiet_nil (fun v => ?_)
    go_wp2_with fail
    go_ret
    exact ⟨rfl, Below.ext0 HW.out.1 _⟩
  refine wp_region_ext W (by kernel_rfl) (by kernel_rfl) ?_
  iterate 9 (go_big_quiet_step ((first | (go_at_call 10; exact Calls.in_ext (few_in HH.out.1 hin _ HQ1.out _ (Below.ext0 HW.out.1 _))) | (go_at_call 11; exact Calls.in_ext (small_in HH.out.2 hlh _ HQ2.out _ (Below.ext0 HW.out.1 _))))))
  go_big_quiet_step ((go_at_call 14; exact Calls.in_ext (limits_any _)))
  go_big_quiet_want
  refine quiet_load_at _ _ rfl (w.heap.size + 1 + 1) 0 rfl (fcV f) _ (fun w9 hw9 j u hu => by obtain ⟨u9, rfl⟩ := hw9; rw [ext_cell _ _ l2, Nat.zero_add, HW.out.2.2.2.cell]; exact hu) Try.underlying48 rfl (by rw [fcV_size HF.out]; kernel_rfl) ?_
  go_simp
  go_big_quiet_on
  go_big_quiet_step ((go_at_call 18; exact Calls.in_ext (in_any limZ f _ rfl HF.out _ HQ3.out)))
  repeat (go_big_quiet_step (fail))
  refine wpQuiet_nil (fun v => ?_)
  obtain ⟨L, hL⟩ : ∃ L, (lvlsN lh, blksN lh) = L := ⟨_, rfl⟩
  have HL := Lib.hid hL
  obtain ⟨ps, hps⟩ : ∃ ps, rulesP L its = ps := ⟨_, rfl⟩
  obtain ⟨fs, hfs⟩ : ∃ fs, faultsP L its = fs := ⟨_, rfl⟩
  have HP := Lib.hid (And.intro hps hfs)
  clear hL hps hfs
  go_upto_region 5 with (go_at_call 12; refine (comp_in HH.out.1 HH.out.2 HQ1.out HQ2.out hcap hcm L HL.out _ (Below.ext0 HW.out.1 _)).mono ?_; rintro e w' ⟨hbC, A1, c1', A2, c2', he, hr, hfa⟩; rw [HP.out.1, HP.out.2] at he; rw [HP.out.1] at hr; subst he; have HC := Lib.hid (And.intro hbC hr); clear hbC hr hfa)
  have hbW : Below W.heap.size W w' := (below_ext W _).trans (HC.out.1.mono (size_ext _ _))
  refine forget (fun X => Below w.heap.size w X ∧ Bk X w.heap.size #[.slice A its.length cap] 24 ∧ Bk X (w.heap.size + 1) #[.string hn, .int .i64 x, .int .i64 y, .slice AH lh.length ch] 29 ∧ Bk X (w.heap.size + 1 + 1) (fcV f) 48 ∧ Bk X w'.heap.size #[.slice A1 ps.length c1'] 35 ∧ Elems tRl X X.heap.size A1 ps) ⟨?_, ?_, ?_, ?_, ?_, ?_⟩ ?_
  · exact Below.alloc0 (Below.trans0 HW.out.1 hbW) _
  · exact (HW.out.2.1.below hbW).alloc _
  · exact (HW.out.2.2.1.below hbW).alloc _
  · exact (HW.out.2.2.2.below hbW).alloc _
  · exact Bk.new _ _ _
  · exact HC.out.2.keep (below_self _ _) (by simp)
  clear hbW HC c0 c1 l0 l1 l2 HW
  generalize w'.heap.size = pb at *
  rintro X ⟨hX, b0, b1, b2, bp, hr⟩
  have c0 : X.cell? ⟨w.heap.size, 0, none⟩ = some (.slice A its.length cap) := b0.cell 0
  have c1 : X.cell? ⟨pb, 0, none⟩ = some (.slice A1 ps.length c1') := bp.cell 0
  have l0 := b0.lt
  have l1 := bp.lt
  have HX := Lib.hid (And.intro hX (And.intro b0 (And.intro b1 (And.intro b2 (And.intro bp hr)))))
  clear hX b0 b1 b2 bp hr
  by_cases hnil : fs = []
  · have hfl : fs.length = 0 := by rw [hnil]; rfl
    have hfl0 : ¬ 0 < (fs.length : Int) := by omega
    have hpl : ps.length = its.length := by rw [← HP.out.1]; exact rules_len (HP.out.2.trans hnil)
    have hq1 : ((ps.length : Int) == (its.length : Int)) = true := by simpa using (show (ps.length : Int) = its.length by omega)
    have hq2 : ((ps.length : Int) != (its.length : Int)) = false := by simpa using (show (ps.length : Int) = its.length by omega)
    have Hpl := Lib.hid (And.intro hpl hnil)
    clear hnil hfl hpl
    go_wp2_with fail
    clear c0 c1 hq1 hq2 hfl0
    have hLL : L.1.length ≤ 1000000 ∧ L.2.length ≤ 1000000 := by
      have h8 := smallB_spec HQ2.out
      have h9 := offB_le h8.2 lh.length
      unfold offB at h9
      rw [List.take_length] at h9
      rw [← HL.out]
      exact ⟨by simp [lvlsN]; omega, by show (blksN lh).length ≤ _; omega⟩
    go_loopw [10, 11, 12] (fun i _ _ wr => ∃ (k : Nat), k ≤ ps.length ∧ i = .int .i64 k ∧ Below X.heap.size X wr) (fun i _ _ _ => ps.length - (intOf i).toNat)
    case atStart => exact ⟨0, by omega, rfl, Below.refl _ _⟩
    case round =>
      obtain ⟨k, hk, rfl, hwr⟩ := hrel
      generalize wr = wA at *
      have hwz := hwr.size
      have c0 : wA.cell? ⟨w.heap.size, 0, none⟩ = some (.slice A its.length cap) := (HX.out.2.1.below hwr).cell 0
      have c1 : wA.cell? ⟨pb, 0, none⟩ = some (.slice A1 ps.length c1') := (HX.out.2.2.2.2.1.below hwr).cell 0
      have l0 := (HX.out.2.1.below hwr).lt
      have l1 := (HX.out.2.2.2.2.1.below hwr).lt
      by_cases hlt : k < ps.length
      · have hki : k < its.length := by have := Hpl.out.1; omega
        obtain ⟨b, off, kd, nm, AZ, zs, zc, num, rn, rd, sn, sd, rfl, hb, Hk, d0, d1, d2, d3, d4, d5, d6, d7, _, hzc, hzm, hEZ, _, _⟩ := pick_rule (HX.out.2.2.2.2.2.keep hwr (Nat.le_refl _)) hlt
        obtain ⟨ib, io, ikd, inm, AW, ws, cw, iN, irn, ird, isn, isd, iatt, rfl, hib, Hik, i0, i1, i2, i3, i4, i5, i6, i7, i8, ig1, ig2, ig3, if1, if2, if3, if4, if5, if6, if7, ig4⟩ := pick_it (HH.out.1.keep (Below.trans0 HX.out.1 hwr) (Nat.le_refl _)) hki
        obtain ⟨hra, hbad, _, _⟩ := rules_at (L := L) (l := its) (HP.out.2.trans Hpl.out.2) Hik.out
        rw [HP.out.1, Hk.out] at hra
        have hkl : (k : Int) < (ps.length : Int) := by omega
        have hkil : (k : Int) < (its.length : Int) := by omega
        have bw : b < wA.heap.size := by omega
        have ibw : ib < wA.heap.size := by have := HX.out.1.size; omega
        unfold ruleI at hra
        simp only [Option.some.injEq, Prod.mk.injEq] at hra
        obtain ⟨rfl, rfl, hzs, rfl, ⟨rfl, rfl⟩, rfl, rfl⟩ := hra
        have hmet := zonesI_in (f := f) hbad HQ3.out
        rw [← hzs] at hmet
        have HM := Lib.hid (And.intro hmet (And.intro hEZ (And.intro hwr (And.intro ig3.out hzc))))
        have hzl : zs.length ≤ 9223372036854775807 := by unfold maxLen at hzm; omega
        clear hmet hzs hbad hEZ hwr ig3 ig4 Hk Hik hzc hzm
        go_upto_region 12 with (fail)
        have HS : Hid (∀ W', Below wA.heap.size wA W' → (W'.cell? ⟨w.heap.size, 0, none⟩ = some (.slice (some ⟨ib, io, none⟩) its.length cap) ∧ W'.cell? ⟨pb, 0, none⟩ = some (.slice (some ⟨b, off, none⟩) ps.length c1') ∧ W'.cell? ⟨b, off + k * 8, none⟩ = some (.int .i64 kd) ∧ W'.cell? ⟨b, off + k * 8 + 1, none⟩ = some (.string nm) ∧ W'.cell? ⟨b, off + k * 8 + 2, none⟩ = some (.slice AZ zs.length zc) ∧ W'.cell? ⟨b, off + k * 8 + 3, none⟩ = some (.int .i64 num) ∧ W'.cell? ⟨b, off + k * 8 + 4, none⟩ = some (.int .i64 rn) ∧ W'.cell? ⟨b, off + k * 8 + 5, none⟩ = some (.int .i64 rd) ∧ W'.cell? ⟨b, off + k * 8 + 6, none⟩ = some (.int .i64 sn) ∧ W'.cell? ⟨b, off + k * 8 + 7, none⟩ = some (.int .i64 sd) ∧ W'.cell? ⟨ib, io + k * 9, none⟩ = some (.int .i64 kd) ∧ W'.cell? ⟨ib, io + k * 9 + 1, none⟩ = some (.string nm) ∧ W'.cell? ⟨ib, io + k * 9 + 2, none⟩ = some (.slice AW ws.length cw) ∧ W'.cell? ⟨ib, io + k * 9 + 3, none⟩ = some (.int .i64 num) ∧ W'.cell? ⟨ib, io + k * 9 + 4, none⟩ = some (.int .i64 rn) ∧ W'.cell? ⟨ib, io + k * 9 + 5, none⟩ = some (.int .i64 rd) ∧ W'.cell? ⟨ib, io + k * 9 + 6, none⟩ = some (.int .i64 sn) ∧ W'.cell? ⟨ib, io + k * 9 + 7, none⟩ = some (.int .i64 sd) ∧ W'.cell? ⟨ib, io + k * 9 + 8, none⟩ = some (.int .i64 iatt))) := Lib.hid fun W' hB => ⟨(hB.cell (p := ⟨w.heap.size, 0, none⟩) l0).trans c0, (hB.cell (p := ⟨pb, 0, none⟩) l1).trans c1, (hB.cell (p := ⟨b, off + k * 8, none⟩) bw).trans d0, (hB.cell (p := ⟨b, off + k * 8 + 1, none⟩) bw).trans d1, (hB.cell (p := ⟨b, off + k * 8 + 2, none⟩) bw).trans d2, (hB.cell (p := ⟨b, off + k * 8 + 3, none⟩) bw).trans d3, (hB.cell (p := ⟨b, off + k * 8 + 4, none⟩) bw).trans d4, (hB.cell (p := ⟨b, off + k * 8 + 5, none⟩) bw).trans d5, (hB.cell (p := ⟨b, off + k * 8 + 6, none⟩) bw).trans d6, (hB.cell (p := ⟨b, off + k * 8 + 7, none⟩) bw).trans d7, (hB.cell (p := ⟨ib, io + k * 9, none⟩) ibw).trans i0, (hB.cell (p := ⟨ib, io + k * 9 + 1, none⟩) ibw).trans i1, (hB.cell (p := ⟨ib, io + k * 9 + 2, none⟩) ibw).trans i2, (hB.cell (p := ⟨ib, io + k * 9 + 3, none⟩) ibw).trans i3, (hB.cell (p := ⟨ib, io + k * 9 + 4, none⟩) ibw).trans i4, (hB.cell (p := ⟨ib, io + k * 9 + 5, none⟩) ibw).trans i5, (hB.cell (p := ⟨ib, io + k * 9 + 6, none⟩) ibw).trans i6, (hB.cell (p := ⟨ib, io + k * 9 + 7, none⟩) ibw).trans i7, (hB.cell (p := ⟨ib, io + k * 9 + 8, none⟩) ibw).trans i8⟩
        go_region_held3 (fun W' => (W'.cell? ⟨w.heap.size, 0, none⟩ = some (.slice (some ⟨ib, io, none⟩) its.length cap) ∧ W'.cell? ⟨pb, 0, none⟩ = some (.slice (some ⟨b, off, none⟩) ps.length c1') ∧ W'.cell? ⟨b, off + k * 8, none⟩ = some (.int .i64 kd) ∧ W'.cell? ⟨b, off + k * 8 + 1, none⟩ = some (.string nm) ∧ W'.cell? ⟨b, off + k * 8 + 2, none⟩ = some (.slice AZ zs.length zc) ∧ W'.cell? ⟨b, off + k * 8 + 3, none⟩ = some (.int .i64 num) ∧ W'.cell? ⟨b, off + k * 8 + 4, none⟩ = some (.int .i64 rn) ∧ W'.cell? ⟨b, off + k * 8 + 5, none⟩ = some (.int .i64 rd) ∧ W'.cell? ⟨b, off + k * 8 + 6, none⟩ = some (.int .i64 sn) ∧ W'.cell? ⟨b, off + k * 8 + 7, none⟩ = some (.int .i64 sd) ∧ W'.cell? ⟨ib, io + k * 9, none⟩ = some (.int .i64 kd) ∧ W'.cell? ⟨ib, io + k * 9 + 1, none⟩ = some (.string nm) ∧ W'.cell? ⟨ib, io + k * 9 + 2, none⟩ = some (.slice AW ws.length cw) ∧ W'.cell? ⟨ib, io + k * 9 + 3, none⟩ = some (.int .i64 num) ∧ W'.cell? ⟨ib, io + k * 9 + 4, none⟩ = some (.int .i64 rn) ∧ W'.cell? ⟨ib, io + k * 9 + 5, none⟩ = some (.int .i64 rd) ∧ W'.cell? ⟨ib, io + k * 9 + 6, none⟩ = some (.int .i64 sn) ∧ W'.cell? ⟨ib, io + k * 9 + 7, none⟩ = some (.int .i64 sd) ∧ W'.cell? ⟨ib, io + k * 9 + 8, none⟩ = some (.int .i64 iatt)))
          ((apply HS.out; (repeat (first | with_reducible exact Below.refl _ _ | with_reducible assumption | with_reducible refine Below.alloc0 ?_ _ | with_reducible refine Below.ext0 ?_ _ | with_reducible refine Below.drew ?_ | with_reducible refine below_drewN ?_ _ | (with_reducible refine Below.setCell (hp := ?hp) ?_ _; case hp => (first | (simp; done) | (simp; omega))))); all_goals fail))
          (fail)
        · refine forget_then (fun Y => Below wA.heap.size wA Y ∧ Bk Y (wA.heap.size) #[.int .i64 kd, .string nm, .slice AZ zs.length zc, .int .i64 num, .int .i64 rn, .int .i64 rd, .int .i64 sn, .int .i64 sd] 54 ∧ Bk Y (wA.heap.size + 1) #[.int .i64 kd, .string nm, .slice AW ws.length cw, .int .i64 num, .int .i64 rn, .int .i64 rd, .int .i64 sn, .int .i64 sd, .int .i64 iatt] 57) ⟨by (repeat (first | with_reducible exact Below.refl _ _ | with_reducible assumption | with_reducible refine Below.alloc0 ?_ _ | with_reducible refine Below.ext0 ?_ _ | with_reducible refine Below.drew ?_ | with_reducible refine below_drewN ?_ _ | (with_reducible refine Below.setCell (hp := ?hp) ?_ _; case hp => (first | (simp; done) | (simp; omega))))), ((bk_new_at wA _ _ _ rfl).alloc _).drew, (bk_next wA _ _ _).drew⟩ ?_
          rintro Y ⟨hY, br, bi⟩
          have bh := (HX.out.2.2.1.below HM.out.2.2.1).below hY
          have bf := (HX.out.2.2.2.1.below HM.out.2.2.1).below hY
          have lf := bf.lt
          have lh1 := bh.lt
          have lr := br.lt
          have li := bi.lt
          have hYz := hY.size
          have r0 : Y.cell? ⟨wA.heap.size, 0, none⟩ = some (.int .i64 kd) := br.cell 0
          have r1 : Y.cell? ⟨wA.heap.size, 1, none⟩ = some (.string nm) := br.cell 1
          have r2 : Y.cell? ⟨wA.heap.size, 2, none⟩ = some (.slice AZ zs.length zc) := br.cell 2
          have r3 : Y.cell? ⟨wA.heap.size, 3, none⟩ = some (.int .i64 num) := br.cell 3
          have r4 : Y.cell? ⟨wA.heap.size, 4, none⟩ = some (.int .i64 rn) := br.cell 4
          have r5 : Y.cell? ⟨wA.heap.size, 5, none⟩ = some (.int .i64 rd) := br.cell 5
          have r6 : Y.cell? ⟨wA.heap.size, 6, none⟩ = some (.int .i64 sn) := br.cell 6
          have r7 : Y.cell? ⟨wA.heap.size, 7, none⟩ = some (.int .i64 sd) := br.cell 7
          have ci := bi.cell
          have chh := bh.cell
          have hYX : Below X.heap.size X Y := HM.out.2.2.1.trans (hY.mono hwz)
          have HY := Lib.hid (And.intro hYX (And.intro hY (And.intro bh bf)))
          clear hY hYX br bi bh bf
          obtain ⟨mv, hmv⟩ : ∃ v, metB L f ws = v := ⟨_, rfl⟩
          have HV := Lib.hid (And.intro (HM.out.1.trans hmv) hmv)
          clear hmv
          cases mv
          all_goals
            go_wp2_with fail
            refine wp_region_ext Y (by kernel_rfl) (by kernel_rfl) ?_
            iterate 2 (go_big_quiet_step (fail))
            go_big_quiet_want
            refine quiet_load_at _ _ rfl (w.heap.size + 1 + 1) 0 rfl (fcV f) _ (fun w9 hw9 j u hu => by obtain ⟨u9, rfl⟩ := hw9; rw [ext_cell _ _ lf, Nat.zero_add, HY.out.2.2.2.cell]; exact hu) Try.underlying48 rfl (by rw [fcV_size HF.out]; kernel_rfl) ?_
            go_simp
            go_big_quiet_on
            go_big_quiet_step ((go_at_call 19; exact Calls.in_ext (applies_any AZ zs _ zc f _ X.heap.size (HM.out.2.1.keep ((HY.out.2.1.mono hwz).trans ((below_ext _ _).mono (by omega))) (Nat.le_refl _)) (Nat.le_trans hwz (Nat.le_trans hYz (size_ext _ _))) rfl hzl HF.out _ HV.out.1)))
            iterate 2 (go_big_quiet_step (fail))
            go_big_quiet_want
            refine quiet_load_at _ _ rfl (w.heap.size + 1 + 1) 0 rfl (fcV f) _ (fun w9 hw9 j u hu => by obtain ⟨u9, rfl⟩ := hw9; rw [ext_cell _ _ lf, Nat.zero_add, HY.out.2.2.2.cell]; exact hu) Try.underlying48 rfl (by rw [fcV_size HF.out]; kernel_rfl) ?_
            go_simp
            go_big_quiet_on
            go_big_quiet_step ((go_at_call 20; exact Calls.in_ext (met_any _ _ AW ws cw _ _ _ _ _ _ hn x y AH lh ch f _ w.heap.size (HM.out.2.2.2.1.keep (((HY.out.2.1).trans ((below_ext _ _).mono hYz)).mono (by have := HX.out.1.size; omega)) (Nat.le_refl _)) (HH.out.2.keep (Below.ext0 (Below.trans0 HX.out.1 HY.out.1) _) (Nat.le_refl _)) (Nat.le_trans (Nat.le_trans HX.out.1.size HY.out.1.size) (size_ext _ _)) ig2 (smallB_spec HQ2.out).1 (smallB_spec HQ2.out).2 L HL.out hLL.1 hLL.2 HF.out _ HV.out.2)))
            repeat (go_big_quiet_step (fail))
            refine wpQuiet_nil (fun v => ?_)
            go_wp2_with fail
            go_roundw
            case rel => exact ⟨k + 1, by omega, by go_num, Below.ext0 HY.out.1 _⟩
            case measure => simp [intOf]; omega
        · refine forget_then (fun Y => Below wA.heap.size wA Y ∧ Bk Y (wA.heap.size + 1) #[.int .i64 kd, .string nm, .slice AZ zs.length zc, .int .i64 num, .int .i64 rn, .int .i64 rd, .int .i64 sn, .int .i64 sd] 54 ∧ Bk Y (wA.heap.size) #[.int .i64 kd, .string nm, .slice AW ws.length cw, .int .i64 num, .int .i64 rn, .int .i64 rd, .int .i64 sn, .int .i64 sd, .int .i64 iatt] 57) ⟨by (repeat (first | with_reducible exact Below.refl _ _ | with_reducible assumption | with_reducible refine Below.alloc0 ?_ _ | with_reducible refine Below.ext0 ?_ _ | with_reducible refine Below.drew ?_ | with_reducible refine below_drewN ?_ _ | (with_reducible refine Below.setCell (hp := ?hp) ?_ _; case hp => (first | (simp; done) | (simp; omega))))), (bk_next wA _ _ _).drew, ((bk_new_at wA _ _ _ rfl).alloc _).drew⟩ ?_
          rintro Y ⟨hY, br, bi⟩
          have bh := (HX.out.2.2.1.below HM.out.2.2.1).below hY
          have bf := (HX.out.2.2.2.1.below HM.out.2.2.1).below hY
          have lf := bf.lt
          have lh1 := bh.lt
          have lr := br.lt
          have li := bi.lt
          have hYz := hY.size
          have r0 : Y.cell? ⟨wA.heap.size + 1, 0, none⟩ = some (.int .i64 kd) := br.cell 0
          have r1 : Y.cell? ⟨wA.heap.size + 1, 1, none⟩ = some (.string nm) := br.cell 1
          have r2 : Y.cell? ⟨wA.heap.size + 1, 2, none⟩ = some (.slice AZ zs.length zc) := br.cell 2
          have r3 : Y.cell? ⟨wA.heap.size + 1, 3, none⟩ = some (.int .i64 num) := br.cell 3
          have r4 : Y.cell? ⟨wA.heap.size + 1, 4, none⟩ = some (.int .i64 rn) := br.cell 4
          have r5 : Y.cell? ⟨wA.heap.size + 1, 5, none⟩ = some (.int .i64 rd) := br.cell 5
          have r6 : Y.cell? ⟨wA.heap.size + 1, 6, none⟩ = some (.int .i64 sn) := br.cell 6
          have r7 : Y.cell? ⟨wA.heap.size + 1, 7, none⟩ = some (.int .i64 sd) := br.cell 7
          have ci := bi.cell
          have chh := bh.cell
          have hYX : Below X.heap.size X Y := HM.out.2.2.1.trans (hY.mono hwz)
          have HY := Lib.hid (And.intro hYX (And.intro hY (And.intro bh bf)))
          clear hY hYX br bi bh bf
          obtain ⟨mv, hmv⟩ : ∃ v, metB L f ws = v := ⟨_, rfl⟩
          have HV := Lib.hid (And.intro (HM.out.1.trans hmv) hmv)
          clear hmv
          cases mv
          all_goals
            go_wp2_with fail
            refine wp_region_ext Y (by kernel_rfl) (by kernel_rfl) ?_
            iterate 2 (go_big_quiet_step (fail))
            go_big_quiet_want
            refine quiet_load_at _ _ rfl (w.heap.size + 1 + 1) 0 rfl (fcV f) _ (fun w9 hw9 j u hu => by obtain ⟨u9, rfl⟩ := hw9; rw [ext_cell _ _ lf, Nat.zero_add, HY.out.2.2.2.cell]; exact hu) Try.underlying48 rfl (by rw [fcV_size HF.out]; kernel_rfl) ?_
            go_simp
            go_big_quiet_on
            go_big_quiet_step ((go_at_call 19; exact Calls.in_ext (applies_any AZ zs _ zc f _ X.heap.size (HM.out.2.1.keep ((HY.out.2.1.mono hwz).trans ((below_ext _ _).mono (by omega))) (Nat.le_refl _)) (Nat.le_trans hwz (Nat.le_trans hYz (size_ext _ _))) rfl hzl HF.out _ HV.out.1)))
            iterate 2 (go_big_quiet_step (fail))
            go_big_quiet_want
            refine quiet_load_at _ _ rfl (w.heap.size + 1 + 1) 0 rfl (fcV f) _ (fun w9 hw9 j u hu => by obtain ⟨u9, rfl⟩ := hw9; rw [ext_cell _ _ lf, Nat.zero_add, HY.out.2.2.2.cell]; exact hu) Try.underlying48 rfl (by rw [fcV_size HF.out]; kernel_rfl) ?_
            go_simp
            go_big_quiet_on
            go_big_quiet_step ((go_at_call 20; exact Calls.in_ext (met_any _ _ AW ws cw _ _ _ _ _ _ hn x y AH lh ch f _ w.heap.size (HM.out.2.2.2.1.keep (((HY.out.2.1).trans ((below_ext _ _).mono hYz)).mono (by have := HX.out.1.size; omega)) (Nat.le_refl _)) (HH.out.2.keep (Below.ext0 (Below.trans0 HX.out.1 HY.out.1) _) (Nat.le_refl _)) (Nat.le_trans (Nat.le_trans HX.out.1.size HY.out.1.size) (size_ext _ _)) ig2 (smallB_spec HQ2.out).1 (smallB_spec HQ2.out).2 L HL.out hLL.1 hLL.2 HF.out _ HV.out.2)))
            repeat (go_big_quiet_step (fail))
            refine wpQuiet_nil (fun v => ?_)
            go_wp2_with fail
            go_roundw
            case rel => exact ⟨k + 1, by omega, by go_num, Below.ext0 HY.out.1 _⟩
            case measure => simp [intOf]; omega
      · have HM := Lib.hid hwr
        clear hwr
        go_wp2_with fail
        go_ret
        exact ⟨rfl, Below.trans0 HX.out.1 HM.out⟩
  · have hfl0 : 0 < (fs.length : Int) := by
      have : fs.length ≠ 0 := fun h => hnil (List.length_eq_zero_iff.1 h)
      omega
    have hpl : ps.length = 0 := by rw [← HP.out.1, rules_none (fun h => hnil (HP.out.2.symm.trans h))]; rfl
    have hq1 : ((ps.length : Int) == 0) = true := by simpa using (show (ps.length : Int) = 0 by omega)
    clear hnil hpl
    go_wp2_with fail
    go_ret
    exact ⟨rfl, HX.out.1⟩
theorem opensFc : Opens Try.prog 48 tFc := opens_arr Try.underlying48 (by kernel_rfl) (opens_int Try.underlying3 (by kernel_rfl))
theorem fac_of {w : World} {cs : Array Value} {y : Fc} (h : tFc.rd w w.heap.size cs.toList y) : Value.agg cs = .agg (fcV y) ∧ y.length = 10 := by
  obtain ⟨h1, h2, _⟩ := fc_cells h
  obtain ⟨l⟩ := cs
  simp only at h1
  subst h1
  exact ⟨rfl, h2⟩
set_option maxRecDepth 100000 in
theorem resolveMeans_lifted (os : Os) (started : os.Started) (H : Type) (enc : TypeId × Value → H) :
    ReturnsInHanded {} Try.checked os 4 .any (Rows.resolveMeansSpec.pre6 enc Try.prog Try.f4 [] false) (Rows.resolveMeansSpec.post enc Try.prog Try.f4 false true false false) := by
  refine law_liftedZ (C := Try.checked) own started (by kernel_rfl) Try.func4 rfl (fun ds hds => ?_) (tb := 4) (by kernel_rfl) Try.underlying4 laidOut (fun t ht => ?_)
    (ChangeSpec.witness6 (enc := enc) (C := Try.checked) false ⟨#[], #[.agg #[.slice none 0 0], .agg #[.string ⟨#[]⟩, .int .i64 0, .int .i64 0, .slice none 0 0], .agg #[.int .i64 0, .int .i64 0, .int .i64 0, .int .i64 0, .int .i64 0, .int .i64 0, .int .i64 0, .int .i64 0, .int .i64 0, .int .i64 0]], []⟩ 8 (by kernel_rfl) (by kernel_rfl) (by kernel_rfl) (by kernel_rfl)) ?_
  · rw [Try.params4] at hds
    match ds, hds with
    | [_, _, _], _ => rfl
  · have := List.all_eq_true.1 (show (Try.f4.params.toList.all fun t => Try.prog.readableRec t && decide (t < Try.prog.types.size)) = true by kernel_rfl) t ht
    simp only [Bool.and_eq_true, decide_eq_true_eq] at this
    exact this
  · intro W args g
    rw [Try.params4] at g
    obtain ⟨v0, q0, e0, g0, h0⟩ := g.cons_inv
    obtain ⟨v1, q1, rfl, g1, h1⟩ := h0.cons_inv
    obtain ⟨v2, q2, rfl, g2, h2⟩ := h1.cons_inv
    obtain rfl := h2.nil_inv
    obtain rfl : args = #[v0, v1, v2] := by cases args; simp_all
    obtain ⟨c0, y0, rfl, r0⟩ := g0.agg Try.underlying24 opensRules
    obtain ⟨c1, y1, rfl, r1⟩ := g1.agg Try.underlying29 opensHa
    obtain ⟨c2, y2, rfl, r2⟩ := g2.got.arr Try.underlying48 opensFc
    obtain ⟨A, cap, e1, b1, b2, b3⟩ := items_of r0
    obtain ⟨hn, a, b, AH, ch, e2, b4, b5, b6, b7, b8⟩ := hall_of r1
    obtain ⟨e3, b9⟩ := fac_of r2
    rw [e1, e2, e3]
    exact means12 A y0 cap hn a b AH y1.2.2 ch y2 W b3 b7 b1 b2 b4 b9

theorem resolveMeans_holds : Rows.ResolveMeansSaid :=
  OpenClaim.holds_of_wide 4 Try.f4 rfl rfl rfl rfl rfl rfl rfl ⟨rfl, rfl, rfl, rfl, rfl⟩ rfl rfl rfl rfl rfl (by kernel_rfl) Try.func4 (by kernel_rfl)
    (of_decide_eq_true (by kernel_rfl)) (by unfold Func.isWrapper; first | (rw [if_pos (by decide +kernel)]; kernel_rfl) | (rw [if_neg (by decide +kernel)]; exact ⟨rfl, rfl⟩))
    (fun os started H enc _ => resolveMeans_lifted os started H enc)
#print axioms resolveMeans_holds

end Go.Proofs.Ytecjhniomjmocaa
