/- ResolveZones: the zones of every rule are few, within the limits, not empty, and apart where there is one alternative, for every rules and hall; no condition. -/
import Derived.Test.YtecjhniomjmocaaResW
namespace Go.Proofs.Ytecjhniomjmocaa
open Go.RowKit Go.ChangeAt
set_option linter.unusedVariables false
set_option linter.unusedSimpArgs false
attribute [local go_sem] ext_cell ext_frozen lt_ext ext_drew

set_option maxRecDepth 100000 in
set_option maxHeartbeats 4000000 in
theorem zones12 (A : Option Addr) (its : List It) (cap : Nat) (hn : ByteArray) (x y : Int) (AH : Option Addr) (lh : List Le) (ch : Nat) (w : World) (h : Elems tIt w w.heap.size A its) (hh : Elems tLe w w.heap.size AH lh) (hcap : its.length ≤ cap) (hcm : cap ≤ 9223372036854775807) (hlh : lh.length ≤ 9223372036854775807) :
    Calls Try.prog 5 #[.agg #[.slice A its.length cap], .agg #[.string hn, .int .i64 x, .int .i64 y, .slice AH lh.length ch]] w fun e w' => e = .returned (.bool true) ∧ Below w.heap.size w w' := by
  have HH := Lib.hid (And.intro h hh)
  clear h hh
  go_enter Try.func5, Try.ntmps5
  go_wp2_with fail
  refine (head_any _).mono ?_
  rintro e w1 ⟨rfl, hb⟩
  have HB := Lib.hid hb
  clear hb
  go_upto_region 2 with (fail)
  refine forget (fun W => Below w.heap.size w W ∧ Bk W w.heap.size #[.slice A its.length cap] 24 ∧ Bk W (w.heap.size + 1) #[.string hn, .int .i64 x, .int .i64 y, .slice AH lh.length ch] 29) ⟨Below.trans0 (Below.alloc0 (below_self _ _) _) HB.out, ((Bk.new w _ _).alloc _).below HB.out, (bk_next w _ _ _).below HB.out⟩ ?_
  clear HB
  rintro W ⟨hw, b0, b1⟩
  have c0 := b0.cell
  have c1 := b1.cell
  have l0 := b0.lt
  have l1 := b1.lt
  have HW := Lib.hid (And.intro hw (And.intro b0 b1))
  clear hw b0 b1
  obtain ⟨q1, hq1⟩ : ∃ v, fewB its = v := ⟨_, rfl⟩
  obtain ⟨q2, hq2⟩ : ∃ v, smallB lh = v := ⟨_, rfl⟩
  have HQ1 := Lib.hid hq1
  have HQ2 := Lib.hid hq2
  have hin : its.length ≤ 9223372036854775807 := by omega
  clear hq1 hq2
  cases q1
  · go_wp2_with (go_at_call 10; refine (few_in HH.out.1 hin _ HQ1.out _ HW.out.1).mono ?_; rintro e w' ⟨rfl, hb⟩; (first | (obtain ⟨u, rfl⟩ := ext_more hb; clear hb) | (obtain ⟨u, rfl⟩ := ext_more_alloc hb; clear hb) | (obtain ⟨u, rfl⟩ := ext_of hb; clear hb)))
    go_ret
    exact ⟨rfl, by have hw := HW.out.1; (repeat (first | with_reducible exact Below.refl _ _ | with_reducible assumption | with_reducible refine Below.alloc0 ?_ _ | with_reducible refine Below.ext0 ?_ _ | with_reducible refine Below.drew ?_ | with_reducible refine below_drewN ?_ _ | (with_reducible refine Below.setCell (hp := ?hp) ?_ _; case hp => (first | (simp; done) | (simp; omega)))))⟩
  cases q2
  · go_wp2_with (first
      | (go_at_call 10; refine (few_in HH.out.1 hin _ HQ1.out _ HW.out.1).mono ?_; rintro e w' ⟨rfl, hb⟩; (first | (obtain ⟨u, rfl⟩ := ext_more hb; clear hb) | (obtain ⟨u, rfl⟩ := ext_more_alloc hb; clear hb) | (obtain ⟨u, rfl⟩ := ext_of hb; clear hb)))
      | (go_at_call 11; refine (small_in HH.out.2 hlh _ HQ2.out _ (Below.ext0 HW.out.1 _)).mono ?_; rintro e w' ⟨rfl, hb⟩; (first | (obtain ⟨u, rfl⟩ := ext_more hb; clear hb) | (obtain ⟨u, rfl⟩ := ext_more_alloc hb; clear hb) | (obtain ⟨u, rfl⟩ := ext_of hb; clear hb))))
    go_ret
    exact ⟨rfl, by have hw := HW.out.1; (repeat (first | with_reducible exact Below.refl _ _ | with_reducible assumption | with_reducible refine Below.alloc0 ?_ _ | with_reducible refine Below.ext0 ?_ _ | with_reducible refine Below.drew ?_ | with_reducible refine below_drewN ?_ _ | (with_reducible refine Below.setCell (hp := ?hp) ?_ _; case hp => (first | (simp; done) | (simp; omega)))))⟩
  obtain ⟨L, hL⟩ : ∃ L, (lvlsN lh, blksN lh) = L := ⟨_, rfl⟩
  have HL := Lib.hid hL
  obtain ⟨ps, hps⟩ : ∃ ps, rulesP L its = ps := ⟨_, rfl⟩
  obtain ⟨fs, hfs⟩ : ∃ fs, faultsP L its = fs := ⟨_, rfl⟩
  have HP := Lib.hid (And.intro hps hfs)
  clear hL hps hfs
  go_upto_region 5 with (first
    | (go_at_call 10; refine (few_in HH.out.1 hin _ HQ1.out _ HW.out.1).mono ?_; rintro e w' ⟨rfl, hb⟩; (first | (obtain ⟨u, rfl⟩ := ext_more hb; clear hb) | (obtain ⟨u, rfl⟩ := ext_more_alloc hb; clear hb) | (obtain ⟨u, rfl⟩ := ext_of hb; clear hb)))
    | (go_at_call 11; refine (small_in HH.out.2 hlh _ HQ2.out _ (Below.ext0 HW.out.1 _)).mono ?_; rintro e w' ⟨rfl, hb⟩; (first | (obtain ⟨u, rfl⟩ := ext_more hb; clear hb) | (obtain ⟨u, rfl⟩ := ext_more_alloc hb; clear hb) | (obtain ⟨u, rfl⟩ := ext_of hb; clear hb)))
    | (go_at_call 12; refine (comp_in HH.out.1 HH.out.2 HQ1.out HQ2.out hcap hcm L HL.out _ (Below.ext0 HW.out.1 _)).mono ?_; rintro e w' ⟨hbC, A1, c1', A2, c2', he, hr, hf⟩; rw [HP.out.1, HP.out.2] at he; rw [HP.out.1] at hr; subst he; have HC := Lib.hid (And.intro hbC hr); clear hbC hr hf))
  go_upto_region 6 with (first
    | (go_at_call 14; refine (limits_any _).mono ?_; rintro e w6 ⟨rfl, hb6⟩; have H6 := Lib.hid hb6; clear hb6)
    | (refine list_store_fresh (o := ⟨none, .store 42 _ _, _, _, _, _⟩) rfl _ _ _ rfl (znV limZ) rfl rfl (by kernel_rfl) (by kernel_rfl) (one_pairs limZ) ?_))
  have hbW : Below W.heap.size W w' := (below_ext W _).trans (HC.out.1.mono (size_ext _ _))
  have hb6 : Below (w'.heap.size + 1) (w'.alloc (.cells #[.slice A1 ps.length c1'] 35)) w6 := H6.out.mono (by simp)
  have hb7 : Below w'.heap.size w' w6 := (below_self w' _).trans (H6.out.mono (by simp))
  refine forget (fun X => Below w.heap.size w X ∧ Bk X w.heap.size #[.slice A its.length cap] 24 ∧ Bk X w'.heap.size #[.slice A1 ps.length c1'] 35 ∧ Bk X w6.heap.size (znV limZ) 42 ∧ Elems tRl X X.heap.size A1 ps) ⟨?_, ?_, ?_, ?_, ?_⟩ ?_
  · exact Below.alloc0 (Below.trans0 (Below.trans0 HW.out.1 hbW) hb7) _
  · exact ((HW.out.2.1.below hbW).below hb7).alloc _
  · exact ((Bk.new w' _ _).below H6.out).alloc _
  · exact Bk.new _ _ _
  · exact HC.out.2.keep (Below.alloc0 hb7 _) (by have := hb7.size; simp; omega)
  have HPS := Lib.hid (fun (i : Nat) (r : Rl) (hr : ps[i]? = some r) => rules_of (L := L) (l := its) (i := i) (r := r) (by rw [HP.out.1]; exact hr))
  clear hbW hb6 hb7 H6 HC c0 c1 l0 l1 HW HQ1 HQ2 HL
  generalize w6.heap.size = lb at *
  generalize w'.heap.size = pb at *
  rintro X ⟨hX, b0, bp, bl, hr⟩
  have HX := Lib.hid (And.intro hX (And.intro b0 (And.intro bp (And.intro bl hr))))
  clear hX b0 bp bl hr
  go_wp2_with fail
  go_loopw [9, 10, 11, 12, 13] (fun i _ _ _ _ wr => ∃ (k : Nat), k ≤ ps.length ∧ i = .int .i64 k ∧ Below X.heap.size X wr) (fun i _ _ _ _ _ => ps.length - (intOf i).toNat)
  case atStart => exact ⟨0, by omega, rfl, Below.refl _ _⟩
  case round =>
    obtain ⟨k, hk, rfl, hwr⟩ := hrel
    generalize wr = wA at *
    have hwz := hwr.size
    have b0 := HX.out.2.1.below hwr
    have bp := HX.out.2.2.1.below hwr
    have bl := HX.out.2.2.2.1.below hwr
    have c0 : wA.cell? ⟨w.heap.size, 0, none⟩ = some (.slice A its.length cap) := b0.cell 0
    have c1 : wA.cell? ⟨pb, 0, none⟩ = some (.slice A1 ps.length c1') := bp.cell 0
    have l0 := b0.lt
    have l1 := bp.lt
    have l2 := bl.lt
    have hE := HX.out.2.2.2.2.keep hwr (Nat.le_refl _)
    by_cases hlt : k < ps.length
    · obtain ⟨b, off, kd, nm, AZ, zs, zc, num, rn, rd, sn, sd, rfl, hb, Hk, d0, d1, d2, d3, d4, d5, d6, d7, _, hzc, hzm, hEZ, _, _⟩ := pick_rule hE hlt
      have hkl : (k : Int) < (ps.length : Int) := by omega
      have bw : b < wA.heap.size := by omega
      obtain ⟨it, hit, hrl, hbad, h200⟩ := HPS.out k _ Hk.out
      have hzs : zs = zonesI L it := congrArg (fun r : Rl => r.2.2.1) hrl
      have h200' : zs.length ≤ 200 := by rw [hzs]; exact h200
      have h200i : ¬ 200 < (zs.length : Int) := by omega
      have hki : k < its.length := (List.getElem?_eq_some_iff.1 hit).1
      obtain ⟨ib, io, ikd, inm, AW, ws, cw, iN, irn, ird, isn, isd, iatt, rfl, hib, Hik, i0, i1, i2, i3, i4, i5, i6, i7, i8, ig1, ig2, ig3, if1, if2, if3, if4, if5, if6, if7, ig4⟩ := pick_it (HH.out.1.keep (Below.trans0 HX.out.1 hwr) (Nat.le_refl _)) hki
      have hieq : it = (ikd, inm, ws, iN, (irn, ird), (isn, isd), iatt) := Option.some.inj (hit.symm.trans Hik.out)
      subst hieq
      have hkil : (k : Int) < (its.length : Int) := by omega
      have ibw : ib < wA.heap.size := by have := hwr.size; have := HX.out.1.size; omega
      have HZS := Lib.hid (And.intro hzs (And.intro hEZ hwr))
      clear hzs hrl hbad h200 hit d0 d1 d3 d4 d5 d6 d7 i0 i1 i3 i4 i5 i6 i7 i8 ig3 ig4 hE b0 bp bl hEZ hwr Hk Hik hzc hzm
      go_wp2_with fail
      go_loopw [11, 12, 13] (fun i _ _ w2 => ∃ (j : Nat), j ≤ zs.length ∧ i = .int .i64 j ∧ Below wA.heap.size wA w2) (fun i _ _ _ => zs.length - (intOf i).toNat)
      case atStart => exact ⟨0, by omega, rfl, Below.refl _ _⟩
      case round =>
        obtain ⟨j, hj, rfl, hw2⟩ := hrel
        generalize wr = w2 at *
        have hz2 := hw2.size
        have k0 : w2.cell? ⟨w.heap.size, 0, none⟩ = some (.slice (some ⟨ib, io, none⟩) its.length cap) := (hw2.cell (p := ⟨_, _, none⟩) l0).trans c0
        have k1 : w2.cell? ⟨pb, 0, none⟩ = some (.slice (some ⟨b, off, none⟩) ps.length c1') := (hw2.cell (p := ⟨_, _, none⟩) l1).trans c1
        have ki : w2.cell? ⟨ib, io + k * 9 + 2, none⟩ = some (.slice AW ws.length cw) := (hw2.cell (p := ⟨_, _, none⟩) ibw).trans i2
        have e0 : w.heap.size < w2.heap.size := by omega
        have e1 : pb < w2.heap.size := by omega
        have e2 : lb < w2.heap.size := by omega
        have ei : ib < w2.heap.size := by omega
        have HL2 := Lib.hid (((HX.out.2.2.2.1.below HZS.out.2.2).below hw2).cell)
        by_cases hlj : j < zs.length
        · have hEZ := HZS.out.2.1.keep (hw2.mono hwz) (Nat.le_refl _)
          obtain ⟨zb, zo, z, rfl, hzb, Hz, hzm, Hz1⟩ := pick_zn hEZ hlj
          have hjl : (j : Int) < (zs.length : Int) := by omega
          have zbw : zb < w2.heap.size := by omega
          have HZ := Lib.hid (zonesI_ok L _ z (by rw [← HZS.out.1]; exact hzm))
          have HEZ := Lib.hid hEZ
          have Hw2 := Lib.hid hw2
          clear hEZ hw2
          go_wp2_with fail
          go_loopw [12] (fun a w3 => ∃ (p q : Nat), p ≤ 10 ∧ a = .int .i64 p ∧ w3 = w2.drewN q) (fun a _ => 10 - (intOf a).toNat)
          case atStart => exact ⟨0, 0, by omega, rfl, rfl⟩
          case round =>
            obtain ⟨p, q, hp, rfl, rfl⟩ := hrel
            by_cases hp10 : p < 10
            · have hpi : (p : Int) < 10 := by omega
              have hzl := HZ.out.1
              have hok := HZ.out.2 p hp10
              have z1 : w2.cell? ⟨zb, zo + j * 20 + p * 2, none⟩ = some (.int .i64 (atR z p).1) := Hz1.out (p * 2) _ (znV_at (by omega)).1
              have z2 : w2.cell? ⟨zb, zo + j * 20 + p * 2 + 1, none⟩ = some (.int .i64 (atR z p).2) := Hz1.out (p * 2 + 1) _ (znV_at (by omega)).2
              have z3 : w2.cell? ⟨lb, p * 2, none⟩ = some (.int .i64 (atR limZ p).1) := (HL2.out _).trans (znV_at (show p < limZ.length from hp10)).1
              have z4 : w2.cell? ⟨lb, p * 2 + 1, none⟩ = some (.int .i64 (atR limZ p).2) := (HL2.out _).trans (znV_at (show p < limZ.length from hp10)).2
              generalize (atR z p).1 = lo at *
              generalize (atR z p).2 = hi at *
              generalize (atR limZ p).1 = llo at *
              generalize (atR limZ p).2 = lhi at *
              obtain ⟨o1, o2, o3⟩ := hok
              have o1' : ¬ hi < lo := by omega
              have o2' : ¬ lo < llo := by omega
              have o3' : ¬ lhi < hi := by omega
              clear hzl o1 o2 o3
              go_upto_region 18 with (fail)
              go_quiet (fail)
              go_wp2_with fail
              go_roundw
              case rel => exact ⟨p + 1, _, by omega, by go_num, rfl⟩
              case measure => simp [intOf]; omega
            · go_wp2_with fail
              go_loopw [13] (fun i w4 => ∃ (m : Nat), m ≤ j ∧ i = .int .i64 m ∧ Below w2.heap.size w2 w4) (fun i _ => j - (intOf i).toNat)
              case atStart => exact ⟨0, by omega, rfl, below_drewN (Below.refl _ _) _⟩
              case round =>
                obtain ⟨m, hm, rfl, hw4⟩ := hrel
                generalize wr = w4 at *
                have hz4 := hw4.size
                have m0 : w4.cell? ⟨w.heap.size, 0, none⟩ = some (.slice (some ⟨ib, io, none⟩) its.length cap) := (hw4.cell (p := ⟨_, _, none⟩) e0).trans k0
                have mi : w4.cell? ⟨ib, io + k * 9 + 2, none⟩ = some (.slice AW ws.length cw) := (hw4.cell (p := ⟨_, _, none⟩) ei).trans ki
                have f0 : w.heap.size < w4.heap.size := by omega
                have fi : ib < w4.heap.size := by omega
                have fz : zb < w4.heap.size := by omega
                by_cases hmj : m < j
                · have hmji : (m : Int) < (j : Int) := by omega
                  have hmzs : (m : Int) < (zs.length : Int) := by omega
                  by_cases hone : ws.length = 1
                  · have hq1 : ((ws.length : Int) == 1) = true := by simpa using (show (ws.length : Int) = 1 by omega)
                    obtain ⟨zb', zo', z2, eA, _, Hy, hym, Hz2'⟩ := pick_zn (HEZ.out.keep (hw4.mono (by omega)) (Nat.le_refl _)) (show m < zs.length by omega)
                    cases eA
                    have hmeet : meetB z z2 = false := by
                      have hy := Hy.out
                      have hz := Hz.out
                      rw [HZS.out.1] at hy hz
                      exact meet_one (L := L) hone hmj hy hz
                    have HZ2 := Lib.hid (And.intro (zonesI_ok L _ z2 (by rw [← HZS.out.1]; exact hym)) hmeet)
                    have Hz1w : Hid (∀ j1 u, (znV z)[j1]? = some u → w4.cell? ⟨zb, zo + j * 20 + j1, none⟩ = some u) := Lib.hid (fun j1 u hu => (hw4.cell (p := ⟨zb, _, none⟩) zbw).trans (Hz1.out j1 u hu))
                    have Hz2 := Hz2'
                    have HZ2w := Lib.hid hw4
                    clear hmeet hone hw4 Hz2' hym Hy
                    go_upto_region 23 with (fail)
                    refine wp_region_ext w4 (by kernel_rfl) (by kernel_rfl) ?_
                    iterate 3 (go_big_quiet_step (fail))
                    go_big_quiet_want
                    refine quiet_load_at _ _ rfl zb (zo + j * 20) rfl (znV z) _ (fun w9 hw9 j u hu => by obtain ⟨u9, rfl⟩ := hw9; rw [ext_cell _ _ fz]; exact Hz1w.out j u hu) Try.underlying42 rfl (by rw [znV_size HZ.out.1]; kernel_rfl) ?_
                    go_simp
                    go_big_quiet_on
                    iterate 3 (go_big_quiet_step (fail))
                    go_big_quiet_want
                    refine quiet_load_at _ _ rfl zb (zo + m * 20) rfl (znV z2) _ (fun w9 hw9 j u hu => by obtain ⟨u9, rfl⟩ := hw9; rw [ext_cell _ _ fz]; exact Hz2.out j u hu) Try.underlying42 rfl (by rw [znV_size HZ2.out.1.1]; kernel_rfl) ?_
                    go_simp
                    go_big_quiet_on
                    go_big_quiet_step ((go_at_call 21; exact Calls.in_ext (meet_any z z2 _ HZ.out.1 HZ2.out.1.1 false HZ2.out.2)))
                    refine wpQuiet_nil (fun v => ?_)
                    go_wp2_with fail
                    go_roundw
                    case rel => exact ⟨m + 1, by omega, by go_num, HZ2w.out.trans ((below_ext w4 v).mono HZ2w.out.size)⟩
                    case measure => simp [intOf]; omega
                  · have hq1 : ((ws.length : Int) == 1) = false := by simpa using (show ¬ (ws.length : Int) = 1 by omega)
                    have HZ2w := Lib.hid hw4
                    clear hone hw4
                    go_wp2_with fail
                    go_roundw
                    case rel => exact ⟨j + 1, by omega, by go_num, Hw2.out.trans (HZ2w.out.mono Hw2.out.size)⟩
                    case measure => simp [intOf]; omega
                · have hmj2 : ¬ (m : Int) < (j : Int) := by omega
                  have HZ2w := Lib.hid hw4
                  clear hw4
                  go_wp2_with fail
                  go_roundw
                  case rel => exact ⟨j + 1, by omega, by go_num, Hw2.out.trans (HZ2w.out.mono Hw2.out.size)⟩
                  case measure => simp [intOf]; omega
        · have Hw2 := Lib.hid hw2
          clear hw2
          go_wp2_with fail
          go_roundw
          case rel => exact ⟨k + 1, by omega, by go_num, HZS.out.2.2.trans (Hw2.out.mono hwz)⟩
          case measure => simp [intOf]; omega
    · have Hwr := Lib.hid hwr
      clear hwr hE b0 bp bl
      go_wp2_with fail
      go_ret
      exact ⟨rfl, Below.trans0 HX.out.1 Hwr.out⟩
set_option maxRecDepth 100000 in
theorem resolveZones_lifted (os : Os) (started : os.Started) (H : Type) (enc : TypeId × Value → H) :
    ReturnsInHanded {} Try.checked os 5 .any (Rows.resolveZonesSpec.pre6 enc Try.prog Try.f5 [] false) (Rows.resolveZonesSpec.post enc Try.prog Try.f5 false true false false) := by
  refine law_liftedZ (C := Try.checked) own started (by kernel_rfl) Try.func5 rfl (fun ds hds => ?_) (tb := 4) (by kernel_rfl) Try.underlying4 laidOut (fun t ht => ?_)
    (ChangeSpec.witness6 (enc := enc) (C := Try.checked) false ⟨#[], #[.agg #[.slice none 0 0], .agg #[.string ⟨#[]⟩, .int .i64 0, .int .i64 0, .slice none 0 0]], []⟩ 8 (by kernel_rfl) (by kernel_rfl) (by kernel_rfl) (by kernel_rfl)) ?_
  · rw [Try.params5] at hds
    match ds, hds with
    | [_, _], _ => rfl
  · have := List.all_eq_true.1 (show (Try.f5.params.toList.all fun t => Try.prog.readableRec t && decide (t < Try.prog.types.size)) = true by kernel_rfl) t ht
    simp only [Bool.and_eq_true, decide_eq_true_eq] at this
    exact this
  · intro W args g
    rw [Try.params5] at g
    obtain ⟨v0, q0, e0, g0, h0⟩ := g.cons_inv
    obtain ⟨v1, q1, rfl, g1, h1⟩ := h0.cons_inv
    obtain rfl := h1.nil_inv
    obtain rfl : args = #[v0, v1] := by cases args; simp_all
    obtain ⟨c0, y0, rfl, r0⟩ := g0.agg Try.underlying24 opensRules
    obtain ⟨c1, y1, rfl, r1⟩ := g1.agg Try.underlying29 opensHa
    obtain ⟨A, cap, e1, b1, b2, b3⟩ := items_of r0
    obtain ⟨hn, a, b, AH, ch, e2, b4, b5, b6, b7, b8⟩ := hall_of r1
    rw [e1, e2]
    exact zones12 A y0 cap hn a b AH y1.2.2 ch W b3 b7 b1 b2 b4

theorem resolveZones_holds : Rows.ResolveZonesSaid :=
  OpenClaim.holds_of_wide 5 Try.f5 rfl rfl rfl rfl rfl rfl rfl ⟨rfl, rfl, rfl, rfl, rfl⟩ rfl rfl rfl rfl rfl (by kernel_rfl) Try.func5 (by kernel_rfl)
    (of_decide_eq_true (by kernel_rfl)) (by unfold Func.isWrapper; first | (rw [if_pos (by decide +kernel)]; kernel_rfl) | (rw [if_neg (by decide +kernel)]; exact ⟨rfl, rfl⟩))
    (fun os started H enc _ => resolveZones_lifted os started H enc)
#print axioms resolveZones_holds

end Go.Proofs.Ytecjhniomjmocaa
