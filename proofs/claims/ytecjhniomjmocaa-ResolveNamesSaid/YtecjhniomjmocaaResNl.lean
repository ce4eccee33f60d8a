/- ResolveNames: with the letter z in front of all names the policy and the faults are the same, for every rules and hall; no condition. -/
import Derived.Test.YtecjhniomjmocaaResNk
namespace Go.Proofs.Ytecjhniomjmocaa
open Go.RowKit Go.ChangeAt
set_option linter.unusedVariables false
set_option linter.unusedSimpArgs false
attribute [local go_sem] ext_cell ext_frozen lt_ext ext_drew

theorem faultsP_lenN (L : Nm) (l : List It) : (faultsP L l).length ≤ 1000 := by
  unfold faultsP
  rw [List.length_append]
  have := faultsTo_len (L := L) (l := l) (i := min l.length 200) (Nat.min_le_left _ _)
  have h2 := Nat.min_le_right l.length 200
  split <;> simp <;> omega
theorem rulesP_lenN (L : Nm) (l : List It) : (rulesP L l).length ≤ l.length := by
  by_cases h : faultsP L l = []
  · rw [rules_len h]; exact Nat.le_refl _
  · rw [rules_none h]; simp
theorem sameL_selfN {α : Type} [DecidableEq α] (a : List α) : sameL a a = true := by unfold sameL; simp

set_option maxRecDepth 100000 in
set_option maxHeartbeats 8000000 in
theorem names12 (A : Option Addr) (its : List It) (cap : Nat) (hn : ByteArray) (x y : Int) (AH : Option Addr) (lh : List Le) (ch : Nat) (w : World) (h : Elems tIt w w.heap.size A its) (hh : Elems tLe w w.heap.size AH lh) (hcap : its.length ≤ cap) (hcm : cap ≤ 9223372036854775807) (hlh : lh.length ≤ 9223372036854775807)
    (hsl : ∀ l ∈ lh, shortL l) (hsi : ∀ x ∈ its, shortI x) :
    Calls Try.prog 7 #[.agg #[.slice A its.length cap], .agg #[.string hn, .int .i64 x, .int .i64 y, .slice AH lh.length ch]] w fun e w' => e = .returned (.bool true) ∧ Below w.heap.size w w' := by
  have HH := Lib.hid (And.intro h hh)
  have HSh := Lib.hid (And.intro hsl hsi)
  clear h hh hsl hsi
  go_enter Try.func7, Try.ntmps7
  go_wp2_with fail
  refine (head_any _).mono ?_
  rintro e w1 ⟨rfl, hb⟩
  have HB := Lib.hid hb
  clear hb
  go_upto_region 2 with (fail)
  refine forget (fun W => Below w.heap.size w W ∧ Bk W w.heap.size #[.slice A its.length cap] 24 ∧ Bk W (w.heap.size + 1) #[.string hn, .int .i64 x, .int .i64 y, .slice AH lh.length ch] 29) ⟨Below.trans0 (Below.alloc0 (below_self _ _) _) HB.out, ((Bk.new w _ _).alloc _).below HB.out, (bk_next w _ _ _).below HB.out⟩ ?_
  clear HB
  rintro W ⟨hw, b0, b1⟩
  have c0 := b0.cell
  have c1 := b1.cell
  have l0 := b0.lt
  have l1 := b1.lt
  have HW := Lib.hid (And.intro hw (And.intro b0 b1))
  clear hw b0 b1
  obtain ⟨q1, hq1⟩ : ∃ v, fewB its = v := ⟨_, rfl⟩
  obtain ⟨q2, hq2⟩ : ∃ v, smallB lh = v := ⟨_, rfl⟩
  have HQ1 := Lib.hid hq1
  have HQ2 := Lib.hid hq2
  have hin : its.length ≤ 9223372036854775807 := by omega
  clear hq1 hq2
  cases q1
  · go_wp2_with (go_at_call 10; refine (few_in HH.out.1 hin _ HQ1.out _ HW.out.1).mono ?_; rintro e w' ⟨rfl, hb⟩; (first | (obtain ⟨u, rfl⟩ := ext_more hb; clear hb) | (obtain ⟨u, rfl⟩ := ext_more_alloc hb; clear hb) | (obtain ⟨u, rfl⟩ := ext_of hb; clear hb)))
    go_ret
    exact ⟨rfl, by have hw := HW.out.1; (repeat (first | with_reducible exact Below.refl _ _ | with_reducible assumption | with_reducible refine Below.alloc0 ?_ _ | with_reducible refine Below.ext0 ?_ _ | with_reducible refine Below.drew ?_ | with_reducible refine below_drewN ?_ _ | (with_reducible refine Below.setCell (hp := ?hp) ?_ _; case hp => (first | (simp; done) | (simp; omega)))))⟩
  cases q2
  · go_wp2_with (first
      | (go_at_call 10; refine (few_in HH.out.1 hin _ HQ1.out _ HW.out.1).mono ?_; rintro e w' ⟨rfl, hb⟩; (first | (obtain ⟨u, rfl⟩ := ext_more hb; clear hb) | (obtain ⟨u, rfl⟩ := ext_more_alloc hb; clear hb) | (obtain ⟨u, rfl⟩ := ext_of hb; clear hb)))
      | (go_at_call 11; refine (small_in HH.out.2 hlh _ HQ2.out _ (Below.ext0 HW.out.1 _)).mono ?_; rintro e w' ⟨rfl, hb⟩; (first | (obtain ⟨u, rfl⟩ := ext_more hb; clear hb) | (obtain ⟨u, rfl⟩ := ext_more_alloc hb; clear hb) | (obtain ⟨u, rfl⟩ := ext_of hb; clear hb))))
    go_ret
    exact ⟨rfl, by have hw := HW.out.1; (repeat (first | with_reducible exact Below.refl _ _ | with_reducible assumption | with_reducible refine Below.alloc0 ?_ _ | with_reducible refine Below.ext0 ?_ _ | with_reducible refine Below.drew ?_ | with_reducible refine below_drewN ?_ _ | (with_reducible refine Below.setCell (hp := ?hp) ?_ _; case hp => (first | (simp; done) | (simp; omega)))))⟩
  have HFw := Lib.hid (fewB_spec HQ1.out)
  have HSm := Lib.hid (smallB_spec HQ2.out)
  have hil := (fewB_spec HQ1.out).1
  have hm1 := (smallB_spec HQ2.out).1
  go_upto_region 4 with (first
    | (go_at_call 10; refine (few_in HH.out.1 hin _ HQ1.out _ HW.out.1).mono ?_; rintro e w' ⟨rfl, hb⟩; (first | (obtain ⟨u, rfl⟩ := ext_more hb; clear hb) | (obtain ⟨u, rfl⟩ := ext_more_alloc hb; clear hb) | (obtain ⟨u, rfl⟩ := ext_of hb; clear hb)))
    | (go_at_call 11; refine (small_in HH.out.2 hlh _ HQ2.out _ (Below.ext0 HW.out.1 _)).mono ?_; rintro e w' ⟨rfl, hb⟩; (first | (obtain ⟨u, rfl⟩ := ext_more hb; clear hb) | (obtain ⟨u, rfl⟩ := ext_more_alloc hb; clear hb) | (obtain ⟨u, rfl⟩ := ext_of hb; clear hb))))
  refine forget (fun X => Below w.heap.size w X ∧ Bk X w.heap.size #[.slice A its.length cap] 24 ∧ Bk X (w.heap.size + 1) #[.string hn, .int .i64 x, .int .i64 y, .slice AH lh.length ch] 29) ⟨by have hw := HW.out.1; (repeat (first | with_reducible exact Below.refl _ _ | with_reducible assumption | with_reducible refine Below.alloc0 ?_ _ | with_reducible refine Below.ext0 ?_ _ | with_reducible refine Below.drew ?_ | with_reducible refine below_drewN ?_ _ | (with_reducible refine Below.setCell (hp := ?hp) ?_ _; case hp => (first | (simp; done) | (simp; omega))))), HW.out.2.1.ext _, HW.out.2.2.ext _⟩ ?_
  clear HW c0 c1 l0 l1
  rintro X ⟨hX, b0, b1⟩
  have HX := Lib.hid (And.intro hX (And.intro b0 b1))
  have hwX : w.heap.size + 1 < X.heap.size := b1.lt
  have c1 := b1.cell
  clear hX b0 b1
  go_upto_region 6 with (fail)
  refine forget (fun X0 => Below X.heap.size X X0 ∧ Bk X0 X.heap.size #[.string hn, .int .i64 x, .int .i64 y, .slice none 0 0] 29) ⟨below_self _ _, Bk.new _ _ _⟩ ?_
  rintro X0 ⟨hX0, bg⟩
  have HX0 := Lib.hid (And.intro hX0 bg)
  clear hX0 bg c1
  obtain ⟨RB, hRB⟩ : ∃ B, X.heap.size + 1 = B := ⟨_, rfl⟩
  go_wp2_with fail
  go_loopw [7, 8, 9, 10, 11, 12] (fun i _ _ _ _ _ wr => ∃ (k : Nat) (v : Value), k ≤ lh.length ∧ i = .int .i64 k ∧ Below X.heap.size X wr ∧ Bk wr X.heap.size #[.string hn, .int .i64 x, .int .i64 y, v] 29 ∧ OwnQ tLe 70 (fun t => t ≠ 73 ∧ t ≠ 77) X.heap.size wr RB v ((lh.take k).map zLe)) (fun i _ _ _ _ _ _ => lh.length - (intOf i).toNat)
  case atStart => exact ⟨0, _, by omega, rfl, HX0.out.1, HX0.out.2, OwnQ.nil⟩
  case round =>
    obtain ⟨k, v, hk, rfl, hlow, bg, hown⟩ := hrel
    generalize wr = wA at *
    have hzA := hlow.size
    have b1 := HX.out.2.2.below hlow
    have c0 : wA.cell? ⟨w.heap.size + 1, 3, none⟩ = some (.slice AH lh.length ch) := b1.cell 3
    have l0 := b1.lt
    have hRA : RB ≤ wA.heap.size := by have := bg.lt; omega
    by_cases hlt : k < lh.length
    · obtain ⟨lb, lo, nm, ht, AB, bs, cb, AA, ars, ca, q1, q2, q3, att, rfl, hlb, Hlk, i0, i1, i2, i3, i4, i5, i6, i7, EB, EA, fht, fat⟩ := pick_le2 (HH.out.2.keep (Below.trans0 HX.out.1 hlow) (Nat.le_refl _)) hlt
      have hkil : (k : Int) < (lh.length : Int) := by omega
      have lbw : lb < wA.heap.size := by omega
      have Hst := Lib.hid (map_takeG (f := zLe) Hlk.out)
      have hlen : ((lh.take k).map zLe).length ≤ 10 := by rw [List.length_map, List.length_take]; omega
      have hsum := HSm.out.2 _ (List.mem_of_getElem? Hlk.out)
      obtain ⟨s1, s2, s3⟩ := HSh.out.1 _ (List.mem_of_getElem? Hlk.out)
      simp only at hsum s1 s2 s3
      have hbl : bs.length ≤ 50 := by omega
      have hal : ars.length ≤ 50 := by omega
      have HS := Lib.hid (And.intro s2 s3)
      have HA := Lib.hid (And.intro hlow (And.intro bg (And.intro hown (And.intro EB.out EA.out))))
      clear hlow bg hown EB EA Hlk b1 s2 s3 hsum
      go_upto_region 12 with (fail)
      refine forget (fun Y => Below wA.heap.size wA Y ∧ Bk Y wA.heap.size #[.string (zB nm), .int .i64 ht, .slice none 0 0, .slice none 0 0, .slice q1.1 q1.2.1 q1.2.2, .slice q2.1 q2.2.1 q2.2.2, .slice q3.1 q3.2.1 q3.2.2, .int .i64 att] 70) ⟨below_self wA _, Bk.new wA _ _⟩ ?_
      rintro Y ⟨hY, bi⟩
      have HY := Lib.hid (And.intro hY bi)
      clear hY bi
      go_wp2_with fail
      go_loopw [9, 10] (fun i _ wr => ∃ (j : Nat) (v : Value), j ≤ bs.length ∧ i = .int .i64 j ∧ Below wA.heap.size wA wr ∧ Bk wr wA.heap.size #[.string (zB nm), .int .i64 ht, v, .slice none 0 0, .slice q1.1 q1.2.1 q1.2.2, .slice q2.1 q2.2.1 q2.2.2, .slice q3.1 q3.2.1 q3.2.2, .int .i64 att] 70 ∧ OwnQ tBl 73 (fun _ => True) X.heap.size wr (wA.heap.size + 1) v ((bs.take j).map zBl)) (fun i _ _ => bs.length - (intOf i).toNat)
      case atStart => exact ⟨0, _, by omega, rfl, HY.out.1, HY.out.2, OwnQ.nil⟩
      case round =>
        obtain ⟨j, v2, hj, rfl, hw2, bi, hq⟩ := hrel
        generalize wr = w2 at *
        have hz2 := hw2.size
        have tl := bi.lt
        have b12 := HX.out.2.2.below (HA.out.1.trans (hw2.mono hzA))
        have e0 : w2.cell? ⟨w.heap.size + 1, 3, none⟩ = some (.slice (some ⟨lb, lo, none⟩) lh.length ch) := b12.cell 3
        have m0 := b12.lt
        have e2 : w2.cell? ⟨lb, lo + k * 8 + 2, none⟩ = some (.slice AB bs.length cb) := (hw2.cell (p := ⟨_, _, none⟩) lbw).trans i2
        have e3 : w2.cell? ⟨lb, lo + k * 8 + 3, none⟩ = some (.slice AA ars.length ca) := (hw2.cell (p := ⟨_, _, none⟩) lbw).trans i3
        have mi : lb < w2.heap.size := by omega
        have hsz : w.heap.size ≤ wA.heap.size := by omega
        by_cases hlj : j < bs.length
        · obtain ⟨bb, bo, nb, hd, ba, rfl, hbb, Hj, g0, g1, g2, fb⟩ := pick_bl2 (HA.out.2.2.2.1.keep (hw2.mono hsz) (Nat.le_refl _)) hlj
          have hjl : (j : Int) < (bs.length : Int) := by omega
          have mb : bb < w2.heap.size := by omega
          have sb : nb.size ≤ 281474976710656 := HS.out.1 _ (List.mem_of_getElem? Hj.out)
          have Hst2 := Lib.hid (map_takeG (f := zBl) Hj.out)
          have H2 := Lib.hid (And.intro hw2 (And.intro bi hq))
          have hql : ((bs.take j).map zBl).length ≤ 50 := by rw [List.length_map, List.length_take]; omega
          clear hw2 bi hq b12
          generalize (bs.take j).map zBl = qs at *
          go_upto_region 17 with (fail)
          refine forget (fun Z => Below w2.heap.size w2 Z ∧ Bk Z w2.heap.size #[.string (zB nb), .slice hd.1 hd.2.1 hd.2.2, .int .i64 ba] 73) ⟨below_self w2 _, Bk.new w2 _ _⟩ ?_
          clear e0 m0 e2 e3 mi g0 g1 g2 mb
          rintro Z ⟨hZ, bz⟩
          have hzZ := hZ.size
          obtain ⟨A5, c5, rfl, hc5, hm5⟩ := H2.out.2.2.form
          have hc5' : c5 ≤ 9223372036854775807 := by unfold maxLen at hm5; omega
          have bi3 := H2.out.2.1.below hZ
          have d2 : Z.cell? ⟨wA.heap.size, 2, none⟩ = some (.slice A5 qs.length c5) := bi3.cell 2
          have f2 := bi3.free 2
          have m3 := bi3.lt
          have z0 : Z.cell? ⟨w2.heap.size, 0, none⟩ = some (.string (zB nb)) := bz.cell 0
          have z1 : Z.cell? ⟨w2.heap.size, 1, none⟩ = some (.slice hd.1 hd.2.1 hd.2.2) := bz.cell 1
          have z2 : Z.cell? ⟨w2.heap.size, 2, none⟩ = some (.int .i64 ba) := bz.cell 2
          have m4 := bz.lt
          have hA3 : wA.heap.size + 1 ≤ Z.heap.size := by omega
          have hX2 : X.heap.size ≤ wA.heap.size + 1 := by omega
          have H3 := Lib.hid (And.intro hZ (And.intro bi3 (H2.out.2.2.below hZ)))
          clear hZ bi3 bz hm5
          go_wp2_with (at_builtin; refine list_appendQ (T := tBl) (E := fun _ => True) (rb := X.heap.size) (base := wA.heap.size + 1) (xs := qs) (v := .slice A5 qs.length c5) rfl _ _ _ rfl 48 Try.underlying65 (by kernel_rfl) (by decide) rfl (H3.out.2.2.below (below_self _ _)) (some ⟨Z.heap.size, 0, none⟩) 1 [.string (zB nb), .slice hd.1 hd.2.1 hd.2.2, .int .i64 ba] (zBl (nb, hd, ba)) rfl (bl_rob sb fb) (by have := lies_bk (Bk.new Z #[.string (zB nb), .slice hd.1 hd.2.1 hd.2.2, .int .i64 ba] 73) 1; simpa using this) trivial hX2 (by unfold maxLen; omega) (by omega) (by simp; omega) ?_; intro A8 c8 w8 hown8 hbel8 ho8; have b8 : Below (wA.heap.size + 1) Z w8 := (((below_self Z _).mono hA3).trans hbel8); have hg9 := H3.out.2.1.below' b8 (by omega); have c9 : w8.cell? ⟨wA.heap.size, 2, none⟩ = some _ := hg9.cell 2; have f9 := hg9.free 2; have m9 := hg9.lt; have H8 := Lib.hid (And.intro hown8 (And.intro b8 hg9)); clear hown8 hbel8 ho8 b8 hg9)
          go_roundw
          case rel =>
            refine ⟨j + 1, .slice A8 (qs.length + 1) c8, by omega, by go_num, ?_, H8.out.2.2.set_ 2 _, ?_⟩
            · exact (H2.out.1.trans (H3.out.1.mono hz2)).trans ((H8.out.2.1.mono (by omega)).setCell (by simp) _)
            · rw [Hst2.out]
              exact H8.out.1.set_ H8.out.2.2 (by omega) trivial (by decide) 2 _
          case measure => (simp [intOf] <;> omega)
        · obtain rfl : j = bs.length := by omega
          rw [List.take_length] at hq
          obtain ⟨AV, cV, rfl, hcV, hmV⟩ := hq.form
          rw [List.length_map] at hcV bi
          have H2 := Lib.hid (And.intro hw2 (And.intro bi hq))
          have hX2 : X.heap.size ≤ wA.heap.size := hzA
          clear hw2 bi hq hmV b12
          go_wp2_with fail
          clear e0 m0 e2 e3 mi
          go_loopw [11, 12] (fun i _ wr => ∃ (j : Nat) (v : Value), j ≤ ars.length ∧ i = .int .i64 j ∧ Below wA.heap.size wA wr ∧ Bk wr wA.heap.size #[.string (zB nm), .int .i64 ht, .slice AV bs.length cV, v, .slice q1.1 q1.2.1 q1.2.2, .slice q2.1 q2.2.1 q2.2.2, .slice q3.1 q3.2.1 q3.2.2, .int .i64 att] 70 ∧ OwnQ tBl 73 (fun _ => True) X.heap.size wr (wA.heap.size + 1) (.slice AV (bs.map zBl).length cV) (bs.map zBl) ∧ OwnQ tAr 77 (fun _ => True) X.heap.size wr (wA.heap.size + 1) v ((ars.take j).map zAr)) (fun i _ _ => ars.length - (intOf i).toNat)
          case atStart => exact ⟨0, _, by omega, rfl, H2.out.1, H2.out.2.1, H2.out.2.2, OwnQ.nil⟩
          case round =>
            clear hz2 tl
            obtain ⟨j, v2, hj, rfl, hw2, bi, hq, hqa⟩ := hrel
            clear H2
            generalize wr = w2 at *
            have hz2 := hw2.size
            have tl := bi.lt
            have b12 := HX.out.2.2.below (HA.out.1.trans (hw2.mono hzA))
            have e0 : w2.cell? ⟨w.heap.size + 1, 3, none⟩ = some (.slice (some ⟨lb, lo, none⟩) lh.length ch) := b12.cell 3
            have m0 := b12.lt
            have e3 : w2.cell? ⟨lb, lo + k * 8 + 3, none⟩ = some (.slice AA ars.length ca) := (hw2.cell (p := ⟨_, _, none⟩) lbw).trans i3
            have mi : lb < w2.heap.size := by omega
            by_cases hlj : j < ars.length
            · obtain ⟨bb, bo, nb, x1, x2, x3, x4, hd, ba, rfl, hbb, Hj, g0, g1, g2, g3, g4, g5, g6, fb1, fb2, fb3, fb4, fb5, fb6⟩ := pick_ar2 (HA.out.2.2.2.2.keep (hw2.mono hsz) (Nat.le_refl _)) hlj
              have hjl : (j : Int) < (ars.length : Int) := by omega
              have mb : bb < w2.heap.size := by omega
              have sb : nb.size ≤ 281474976710656 := HS.out.2 _ (List.mem_of_getElem? Hj.out)
              have Hst2 := Lib.hid (map_takeG (f := zAr) Hj.out)
              have H2 := Lib.hid (And.intro hw2 (And.intro bi (And.intro hq hqa)))
              have hql : ((ars.take j).map zAr).length ≤ 50 := by rw [List.length_map, List.length_take]; omega
              clear hw2 bi hq hqa b12
              generalize (ars.take j).map zAr = qs at *
              go_upto_region 23 with (fail)
              refine forget (fun Z => Below w2.heap.size w2 Z ∧ Bk Z w2.heap.size #[.string (zB nb), .int .i64 x1, .int .i64 x2, .int .i64 x3, .int .i64 x4, .int .i64 hd, .int .i64 ba] 77) ⟨below_self w2 _, Bk.new w2 _ _⟩ ?_
              clear e0 m0 e3 mi g0 g1 g2 g3 g4 g5 g6 mb
              rintro Z ⟨hZ, bz⟩
              have hzZ := hZ.size
              obtain ⟨A5, c5, rfl, hc5, hm5⟩ := H2.out.2.2.2.form
              have hc5' : c5 ≤ 9223372036854775807 := by unfold maxLen at hm5; omega
              have bi3 := H2.out.2.1.below hZ
              have d2 : Z.cell? ⟨wA.heap.size, 3, none⟩ = some (.slice A5 qs.length c5) := bi3.cell 3
              have f2 := bi3.free 3
              have m3 := bi3.lt
              have z0 : Z.cell? ⟨w2.heap.size, 0, none⟩ = some (.string (zB nb)) := bz.cell 0
              have z1 : Z.cell? ⟨w2.heap.size, 1, none⟩ = some (.int .i64 x1) := bz.cell 1
              have z2 : Z.cell? ⟨w2.heap.size, 2, none⟩ = some (.int .i64 x2) := bz.cell 2
              have z3 : Z.cell? ⟨w2.heap.size, 3, none⟩ = some (.int .i64 x3) := bz.cell 3
              have z4 : Z.cell? ⟨w2.heap.size, 4, none⟩ = some (.int .i64 x4) := bz.cell 4
              have z5 : Z.cell? ⟨w2.heap.size, 5, none⟩ = some (.int .i64 hd) := bz.cell 5
              have z6 : Z.cell? ⟨w2.heap.size, 6, none⟩ = some (.int .i64 ba) := bz.cell 6
              have m4 := bz.lt
              have hA3 : wA.heap.size + 1 ≤ Z.heap.size := by omega
              have hX3 : X.heap.size ≤ wA.heap.size + 1 := by omega
              have H3 := Lib.hid (And.intro hZ (And.intro bi3 (And.intro (H2.out.2.2.1.below hZ) (H2.out.2.2.2.below hZ))))
              clear hZ bi3 bz hm5
              go_wp2_with (at_builtin; refine list_appendQ (T := tAr) (E := fun _ => True) (rb := X.heap.size) (base := wA.heap.size + 1) (xs := qs) (v := .slice A5 qs.length c5) rfl _ _ _ rfl 64 Try.underlying66 (by kernel_rfl) (by decide) rfl (H3.out.2.2.2.below (below_self _ _)) (some ⟨Z.heap.size, 0, none⟩) 1 [.string (zB nb), .int .i64 x1, .int .i64 x2, .int .i64 x3, .int .i64 x4, .int .i64 hd, .int .i64 ba] (zAr (nb, (x1, x2, x3, x4), hd, ba)) rfl (ar_rob sb fb1 fb2 fb3 fb4 fb5 fb6) (by have := lies_bk (Bk.new Z #[.string (zB nb), .int .i64 x1, .int .i64 x2, .int .i64 x3, .int .i64 x4, .int .i64 hd, .int .i64 ba] 77) 1; simpa using this) trivial hX3 (by unfold maxLen; omega) (by omega) (by simp; omega) ?_; intro A8 c8 w8 hown8 hbel8 ho8; have b8 : Below (wA.heap.size + 1) Z w8 := (((below_self Z _).mono hA3).trans hbel8); have hg9 := H3.out.2.1.below' b8 (by omega); have hkq := OwnQ.keepQ (H3.out.2.2.1.below (below_self _ _)) (H3.out.2.2.2.below (below_self _ _)) ho8 (by decide) trivial hX3; have c9 : w8.cell? ⟨wA.heap.size, 3, none⟩ = some _ := hg9.cell 3; have f9 := hg9.free 3; have m9 := hg9.lt; have H8 := Lib.hid (And.intro hown8 (And.intro b8 (And.intro hg9 hkq))); clear hown8 hbel8 ho8 b8 hg9 hkq)
              go_roundw
              case rel =>
                refine ⟨j + 1, .slice A8 (qs.length + 1) c8, by omega, by go_num, ?_, H8.out.2.2.1.set_ 3 _, H8.out.2.2.2.set_ H8.out.2.2.1 (by omega) trivial (by decide) 3 _, ?_⟩
                · exact (H2.out.1.trans (H3.out.1.mono hz2)).trans ((H8.out.2.1.mono (by omega)).setCell (by simp) _)
                · rw [Hst2.out]
                  exact H8.out.1.set_ H8.out.2.2.1 (by omega) trivial (by decide) 3 _
              case measure => (simp [intOf] <;> omega)
            · obtain rfl : j = ars.length := by omega
              rw [List.take_length] at hqa
              obtain ⟨AU, cU, rfl, hcU, hmU⟩ := hqa.form
              rw [List.length_map] at hcU bi
              have hr1 := OwnQ.rob (E' := fun t => t ≠ 73 ∧ t ≠ 77) hq (fun _ _ => trivial) (fun h => h.1 rfl)
              have hr2 := OwnQ.rob (E' := fun t => t ≠ 73 ∧ t ≠ 77) hqa (fun _ _ => trivial) (fun h => h.2 rfl)
              rw [List.length_map] at hr1 hr2
              have hrob := le_rob (h1 := q1) (h2 := q2) (h3 := q3) s1 fht fat hr1 hr2 hbl hal
              have bg2 := HA.out.2.1.below hw2
              obtain ⟨Ag, cg, rfl, hcg, hmg⟩ := HA.out.2.2.1.form
              have hog := HA.out.2.2.1.below hw2
              have d0 := bi.cell
              have e4 : w2.cell? ⟨X.heap.size, 3, none⟩ = some (.slice Ag ((lh.take k).map zLe).length cg) := bg2.cell 3
              have f0 := bg2.free 3
              have m9 := bg2.lt
              have hcg' : cg ≤ 9223372036854775807 := by unfold maxLen at hmg; omega
              have hR2 : RB ≤ w2.heap.size := by omega
              have H2 := Lib.hid (And.intro hw2 (And.intro bg2 (And.intro hog (And.intro hrob (HA.out.1.trans (hw2.mono hzA))))))
              clear hw2 bi hq hqa hr1 hr2 hrob bg2 hog hmg hmU hj i0 i1 i2 i3 i4 i5 i6 i7 c0 l0 lbw hlb
              generalize (lh.take k).map zLe = gk at *
              go_wp2_with (at_builtin; refine list_appendQ (T := tLe) (E := fun t => t ≠ 73 ∧ t ≠ 77) (rb := X.heap.size) (base := RB) (xs := gk) (v := .slice Ag gk.length cg) rfl _ _ _ rfl 152 Try.underlying27 (by kernel_rfl) (by decide) rfl (H2.out.2.2.1.below (below_self _ _)) (some ⟨w2.heap.size, 0, none⟩) 1 [.string (zB nm), .int .i64 ht, .slice AV bs.length cV, .slice AU ars.length cU, .slice q1.1 q1.2.1 q1.2.2, .slice q2.1 q2.2.1 q2.2.2, .slice q3.1 q3.2.1 q3.2.2, .int .i64 att] _ rfl (H2.out.2.2.2.1.below (below_self _ _)) (by have := lies_bk (Bk.new w2 #[.string (zB nm), .int .i64 ht, .slice AV bs.length cV, .slice AU ars.length cU, .slice q1.1 q1.2.1 q1.2.2, .slice q2.1 q2.2.1 q2.2.2, .slice q3.1 q3.2.1 q3.2.2, .int .i64 att] 70) 1; simpa using this) (by decide) (by omega) (by unfold maxLen; omega) (by omega) (by simp; omega) ?_; intro A8 c8 w8 hown8 hbel8 ho8; have b8 : Below RB w2 w8 := (((below_self w2 _).mono hR2).trans hbel8); have hg9 := H2.out.2.1.below' b8 (by omega); have c9 : w8.cell? ⟨X.heap.size, 3, none⟩ = some _ := hg9.cell 3; have f9 := hg9.free 3; have m9 := hg9.lt; have H8 := Lib.hid (And.intro hown8 (And.intro b8 hg9)); clear hown8 hbel8 ho8 b8 hg9)
              go_roundw
              case rel =>
                refine ⟨k + 1, .slice A8 (gk.length + 1) c8, by omega, by go_num, ?_, H8.out.2.2.set_ 3 _, ?_⟩
                · exact (H2.out.2.2.2.2.trans (H8.out.2.1.mono (by omega))).setCell (by simp) _
                · rw [Hst.out]
                  exact H8.out.1.set_ H8.out.2.2 (Nat.le_refl _) (by decide) (by decide) 3 _
              case measure => simp [intOf]; omega
    · obtain rfl : k = lh.length := by omega
      rw [List.take_length] at hown
      obtain ⟨AK, cK, rfl, hcK, hmK⟩ := hown.form
      have hEK := hown.elems
      have b0 := HX.out.2.1.below hlow
      have hwA : Below w.heap.size w wA := Below.trans0 HX.out.1 hlow
      rw [List.length_map] at bg
      go_upto_region 26 with (fail)
      refine forget (fun X2 => Below w.heap.size w X2 ∧ Bk X2 w.heap.size #[.slice A its.length cap] 24 ∧ Bk X2 (w.heap.size + 1) #[.string hn, .int .i64 x, .int .i64 y, .slice AH lh.length ch] 29 ∧ Bk X2 X.heap.size #[.string hn, .int .i64 x, .int .i64 y, .slice AK lh.length cK] 29 ∧ Elems tLe X2 wA.heap.size AK (lh.map zLe) ∧ Bk X2 wA.heap.size #[.slice none 0 0] 24) ⟨Below.alloc0 hwA _, b0.alloc _, b1.alloc _, bg.alloc _, hEK.keep (below_self _ _) (Nat.le_refl _), Bk.new _ _ _⟩ ?_
      have hwX2 : X.heap.size < wA.heap.size := bg.lt
      have hxx : w.heap.size + 1 < wA.heap.size := b1.lt
      clear hlow bg hown b1 b0 hwA hEK hmK HX HX0 c0 l0 hRA hzA hcK hk hRB hwX
      generalize X.heap.size = kb at *
      generalize wA.heap.size = tb at *
      rintro X2 ⟨hX2, b0, b1, bk, hEK, bt⟩
      have HX2 := Lib.hid (And.intro hX2 (And.intro b0 (And.intro b1 (And.intro bk (And.intro hEK bt)))))
      clear hX2 b0 b1 bk hEK bt
      obtain ⟨RC, hRC⟩ : ∃ B, tb + 1 = B := ⟨_, rfl⟩
      go_wp2_with fail
      go_loopw [14, 15, 16, 17, 18] (fun i _ _ _ _ wr => ∃ (k : Nat) (v : Value), k ≤ its.length ∧ i = .int .i64 k ∧ Below tb X2 wr ∧ Bk wr tb #[v] 24 ∧ OwnQ tIt 57 (fun t => t ≠ 64 ∧ t ≠ 62) tb wr RC v ((its.take k).map zI)) (fun i _ _ _ _ _ => its.length - (intOf i).toNat)
      case atStart => exact ⟨0, _, by omega, rfl, Below.refl _ _, HX2.out.2.2.2.2.2, OwnQ.nil⟩
      case round =>
        obtain ⟨k, v, hk, rfl, hlow, bg, hown⟩ := hrel
        generalize wr = wA at *
        have hzA := hlow.size
        have b0 := HX2.out.2.1.below' hlow (by omega)
        have c0 : wA.cell? ⟨w.heap.size, 0, none⟩ = some (.slice A its.length cap) := b0.cell 0
        have l0 := b0.lt
        have htA := bg.lt
        have hRA : RC ≤ wA.heap.size := by omega
        have hwA : Below w.heap.size w wA := HX2.out.1.trans (hlow.mono (by omega))
        by_cases hlt : k < its.length
        · obtain ⟨ib, io, ikd, inm, AW, ws, cw, iN, irn, ird, isn, isd, iatt, rfl, hib, Hik, i0, i1, i2, i3, i4, i5, i6, i7, i8, ig1, ig2, ig3, if1, if2, if3, if4, if5, if6, if7, ig4⟩ := pick_it (HH.out.1.keep hwA (Nat.le_refl _)) hlt
          have hkil : (k : Int) < (its.length : Int) := by omega
          have ibw : ib < wA.heap.size := by omega
          have Hst := Lib.hid (map_takeG (f := zI) Hik.out)
          have hlen : ((its.take k).map zI).length ≤ 210 := by rw [List.length_map, List.length_take]; omega
          obtain ⟨hws12, hws8⟩ := HFw.out.2 _ (List.mem_of_getElem? Hik.out)
          have hsi := HSh.out.2 _ (List.mem_of_getElem? Hik.out)
          have HA := Lib.hid (And.intro hlow (And.intro bg (And.intro hown (And.intro ig3.out (And.intro hws8 (And.intro hsi hwA))))))
          clear hlow bg hown ig4 ig3 Hik b0 hws8 hsi hwA
          go_upto_region 31 with (fail)
          refine forget (fun Y => Below wA.heap.size wA Y ∧ Bk Y wA.heap.size #[.int .i64 ikd, .string inm, .slice none 0 0, .int .i64 iN, .int .i64 irn, .int .i64 ird, .int .i64 isn, .int .i64 isd, .int .i64 iatt] 57) ⟨below_self wA _, Bk.new wA _ _⟩ ?_
          rintro Y ⟨hY, bi⟩
          have HY := Lib.hid (And.intro hY bi)
          clear hY bi
          go_wp2_with fail
          go_loopw [16, 17, 18] (fun i _ _ wr => ∃ (j : Nat) (v : Value), j ≤ ws.length ∧ i = .int .i64 j ∧ Below wA.heap.size wA wr ∧ Bk wr wA.heap.size #[.int .i64 ikd, .string inm, v, .int .i64 iN, .int .i64 irn, .int .i64 ird, .int .i64 isn, .int .i64 isd, .int .i64 iatt] 57 ∧ OwnQ (tSlice tTs) 62 (fun t => t ≠ 64) tb wr (wA.heap.size + 1) v ((ws.take j).map (·.map zT))) (fun i _ _ _ => ws.length - (intOf i).toNat)
          case atStart => exact ⟨0, _, by omega, rfl, HY.out.1, HY.out.2, OwnQ.nil⟩
          case round =>
            obtain ⟨j, v2, hj, rfl, hw2, bi, hq⟩ := hrel
            generalize wr = w2 at *
            have hz2 := hw2.size
            have tl := bi.lt
            have b02 := HX2.out.2.1.below' (HA.out.1.trans (hw2.mono (show tb ≤ wA.heap.size by omega))) (by omega)
            have e0 : w2.cell? ⟨w.heap.size, 0, none⟩ = some (.slice (some ⟨ib, io, none⟩) its.length cap) := b02.cell 0
            have m0 := b02.lt
            have e2 : w2.cell? ⟨ib, io + k * 9 + 2, none⟩ = some (.slice AW ws.length cw) := (hw2.cell (p := ⟨_, _, none⟩) ibw).trans i2
            have mi : ib < w2.heap.size := by omega
            have hsz : w.heap.size ≤ wA.heap.size := by omega
            by_cases hlj : j < ws.length
            · obtain ⟨b, off, A1, l, c1, rfl, hb, Hl, g0, gl, HE⟩ := pick_and (HA.out.2.2.2.1.keep (hw2.mono hsz) (Nat.le_refl _)) hlj
              have hl8 := HA.out.2.2.2.2.1 _ (List.mem_of_getElem? Hl.out)
              have hst8 := HA.out.2.2.2.2.2.1 _ (List.mem_of_getElem? Hl.out)
              have hjl : (j : Int) < (ws.length : Int) := by omega
              have Hst2 := Lib.hid (And.intro (map_takeG (f := fun l : List Ts => l.map zT) Hl.out) hst8)
              have mb : b < w2.heap.size := by omega
              obtain ⟨css, k1, k2, k3, k4, k5⟩ := HE.out.flat
              have H2 := Lib.hid (And.intro hw2 (And.intro bi (And.intro hq (And.intro k1 (And.intro k2 k5)))))
              have htl : ((ws.take j).map (fun l => l.map zT)).length ≤ 12 := by rw [List.length_map, List.length_take]; omega
              clear hw2 bi hq b02 hst8 k1 k2 k3 k4 k5
              generalize (ws.take j).map (fun l => l.map zT) = tw at *
              go_upto_region 35 with (at_builtin; refine list_appendL (T := tTs) (base := w2.heap.size) (B := 0) (qs := []) (v := .slice (some ⟨w2.heap.size, 0, none⟩) 0 0) rfl _ _ _ rfl 56 Try.underlying62 (by kernel_rfl) (by decide) one_ts rfl (OwnL.start (Nat.le_refl _)) A1 l.length c1 l css rfl rfl H2.out.2.2.2.1 (fun i a1 a2 => flat_tsN (H2.out.2.2.2.2.1 i a1 a2)) (lies_of H2.out.2.2.2.2.2 ((below_self w2 _).mono (by omega))) (by unfold maxLen; simp; omega) (by simp; omega) (by simp) (by omega) ?_; intro A8 c8 w8 hown8 hbel8 hg8 hd8; rw [List.nil_append] at hown8; simp only [List.length_nil, Nat.zero_add] at hown8; have H8 := Lib.hid (And.intro hown8 ((below_self w2 (.cells #[] 64)).trans hbel8)); clear hown8 hbel8 hg8 hd8)
              have hw8 := H8.out.2.size
              have H8b := Lib.hid (H2.out.1.trans (H8.out.2.mono hz2))
              go_wp2_with fail
              clear e0 m0 e2 mi mb g0
              have H2q := Lib.hid (And.intro H2.out.1 (And.intro H2.out.2.1 H2.out.2.2.1))
              clear H2
              go_loopw [18] (fun i wr => ∃ (m : Nat), m ≤ l.length ∧ i = .int .i64 m ∧ Below w2.heap.size w2 wr ∧ OwnL tTs 64 wr w2.heap.size 0 (.slice A8 l.length c8) ((l.take m).map zT ++ l.drop m)) (fun i _ => l.length - (intOf i).toNat)
              case atStart => exact ⟨0, by omega, rfl, H8.out.2, by simpa using H8.out.1⟩
              case round =>
                obtain ⟨m, hm, rfl, hw3, hown⟩ := hrel
                generalize wr = w3 at *
                have hz3 := hw3.size
                by_cases hlm : m < l.length
                · obtain ⟨g, nm, op, nn, n, att, rfl, hg1, hg2, ⟨C, hC⟩, Ht, t0, t2, Hs1, Hs2⟩ := pick_own hown hlm
                  have hml : (m : Int) < (l.length : Int) := by omega
                  have snn : nn.size ≤ 281474976710656 := Hst2.out.2 _ (List.mem_of_getElem? Ht.out)
                  have ff := hC.free (m * 5 + 2)
                  have H3 := Lib.hid (And.intro hw3 hown)
                  clear hw3 hown hC
                  by_cases hnn : nn = noName
                  · have hz := Lib.hid (Hs2.out (zT_none (.inl hnn)))
                    have he : nn.toList.isEmpty = true := by rw [hnn]; exact empty_of
                    clear hnn
                    go_wp2_with fail
                    go_roundw
                    case rel => exact ⟨m + 1, by omega, by go_num, H3.out.1, hz.out⟩
                    case measure => simp [intOf]; omega
                  have he : nn.toList.isEmpty = false := full_of hnn
                  by_cases hlv : nm = levelB
                  · have hz := Lib.hid (Hs1.out w3 (zB nn) H3.out.2 (by rw [zB_size]; omega) (zT_level hnn hlv))
                    have a1 := is_level (show decide (nm = levelB) = true by simpa using hlv)
                    have a2 := is_block (nm := nm) (b := false) (by subst hlv; decide)
                    have hz9 : (zB nn).size ≤ 1125899906842624 := by rw [zB_size]; omega
                    have he2 : (zB nn).toList.isEmpty = false := full_of (zB_ne nn)
                    clear hlv hnn
                    go_upto_region 40 with (fail)
                    change Code.wp _ _ _ _ (w3.setCell ⟨g, m * 5 + 2, none⟩ (.string (zB nn)))
                    generalize zB nn = zn at *
                    go_wp2_with fail
                    go_roundw
                    case rel => exact ⟨m + 1, by omega, by go_num, H3.out.1.setCell (by simp; omega) _, hz.out⟩
                    case measure => simp [intOf]; omega
                  have a1 := is_level (show decide (nm = levelB) = false by simpa using hlv)
                  by_cases hbl : nm = blockB
                  · have hz := Lib.hid (fun X' h' => Hs1.out X' (dotP nn) h' (Nat.le_trans (dotP_size nn) (by omega)) (zT_block hnn hbl))
                    have a2 := is_block (show decide (nm = blockB) = true by simpa using hbl)
                    clear hlv hnn hbl
                    go_wp2_with (go_at_call 22; refine (dotted_any nn _ (by omega)).mono ?_; rintro e w' ⟨rfl, hb⟩; have HD := Lib.hid hb; clear hb; have hwd := HD.out.size; have ff2 := (HD.out.frozen (p := ⟨g, m * 5 + 2, none⟩) hg2).trans ff; have hg3 : g < w'.heap.size := Nat.lt_of_lt_of_le hg2 hwd; have t3 := (HD.out.cell (p := ⟨g, m * 5 + 2, none⟩) hg2).trans t2)
                    go_roundw
                    case rel => exact ⟨m + 1, by omega, by go_num, (H3.out.1.trans (HD.out.mono hz3)).setCell (by simp; omega) _, hz.out _ (H3.out.2.below HD.out (by omega))⟩
                    case measure => simp [intOf]; omega
                  have a2 := is_block (show decide (nm = blockB) = false by simpa using hbl)
                  have hz := Lib.hid (Hs2.out (zT_none (.inr ⟨hlv, hbl⟩)))
                  clear hlv hbl hnn
                  go_wp2_with fail
                  go_roundw
                  case rel => exact ⟨m + 1, by omega, by go_num, H3.out.1, hz.out⟩
                  case measure => simp [intOf]; omega
                · obtain rfl : m = l.length := by omega
                  rw [List.take_length, List.drop_length, List.append_nil] at hown
                  have hrob := OwnQ.rob (E' := fun t => t ≠ 64) (OwnL.toQ (E := fun _ => True) (rb := tb) flat_tsN one_ts hown) (fun t ht => trivial) (fun h => h rfl)
                  obtain ⟨A5, c5, rfl, hc5, hm5⟩ := H2q.out.2.2.form
                  have hc5' : c5 ≤ 9223372036854775807 := by unfold maxLen at hm5; omega
                  have bi3 := H2q.out.2.1.below hw3
                  have d2 : w3.cell? ⟨wA.heap.size, 2, none⟩ = some (.slice A5 tw.length c5) := bi3.cell 2
                  have f2 := bi3.free 2
                  have m3 := bi3.lt
                  have hX2 : tb ≤ wA.heap.size + 1 := by omega
                  have hA3 : wA.heap.size + 1 ≤ w3.heap.size := by omega
                  have H3 := Lib.hid (And.intro hw3 (And.intro bi3 (And.intro (H2q.out.2.2.below hw3) hrob)))
                  clear hw3 hown hrob bi3 hm5
                  go_wp2_with (at_builtin; refine list_appendQ (T := tSlice tTs) (E := fun t => t ≠ 64) (rb := tb) (base := wA.heap.size + 1) (xs := tw) (v := .slice A5 tw.length c5) rfl _ _ _ rfl 24 Try.underlying55 (by kernel_rfl) (by decide) rfl (H3.out.2.2.1.below (below_self _ _)) (some ⟨w3.heap.size, 0, none⟩) 1 [.slice A8 l.length c8] (l.map zT) rfl (H3.out.2.2.2.below (below_self _ _)) (by have := lies_bk (Bk.new w3 #[.slice A8 l.length c8] 62) 1; simpa using this) (by decide) hX2 (by unfold maxLen; omega) (by omega) (by simp; omega) ?_; intro A9 c9 w9 hown8 hbel8 ho8; have b8 : Below (wA.heap.size + 1) w3 w9 := (((below_self w3 _).mono hA3).trans hbel8); have hg9 := H3.out.2.1.below' b8 (by omega); have c9' : w9.cell? ⟨wA.heap.size, 2, none⟩ = some _ := hg9.cell 2; have f9 := hg9.free 2; have m9 := hg9.lt; have H9 := Lib.hid (And.intro hown8 (And.intro b8 hg9)); clear hown8 hbel8 ho8 b8 hg9)
                  go_roundw
                  case rel =>
                    refine ⟨j + 1, .slice A9 (tw.length + 1) c9, by omega, by go_num, ?_, H9.out.2.2.set_ 2 _, ?_⟩
                    · exact (H2q.out.1.trans (H3.out.1.mono hz2)).trans ((H9.out.2.1.mono (by omega)).setCell (by simp) _)
                    · rw [Hst2.out.1]
                      exact H9.out.1.set_ H9.out.2.2 (by omega) (by decide) (by decide) 2 _
                  case measure => (simp [intOf] <;> omega)
            · obtain rfl : j = ws.length := by omega
              rw [List.take_length] at hq
              obtain ⟨A5, c5, rfl, hc5, hm5⟩ := hq.form
              rw [List.length_map] at hc5 bi
              have hr9 := OwnQ.rob (E' := fun t => t ≠ 64 ∧ t ≠ 62) hq (fun t ht => ht.1) (fun h => h.2 rfl)
              rw [List.length_map] at hr9
              have hrob := it_robN ig1 if1 if2 if3 if4 if5 if6 if7 hr9
              have bg2 := HA.out.2.1.below hw2
              obtain ⟨Ag, cg, rfl, hcg, hmg⟩ := HA.out.2.2.1.form
              have hog := HA.out.2.2.1.below hw2
              have d0 := bi.cell
              have e4 : w2.cell? ⟨tb, 0, none⟩ = some (.slice Ag ((its.take k).map zI).length cg) := bg2.cell 0
              have f0 := bg2.free 0
              have m9 := bg2.lt
              have hcg' : cg ≤ 9223372036854775807 := by unfold maxLen at hmg; omega
              have hR2 : RC ≤ w2.heap.size := by omega
              have H2 := Lib.hid (And.intro hw2 (And.intro bg2 (And.intro hog (And.intro hrob (HA.out.1.trans (hw2.mono (show tb ≤ wA.heap.size by omega)))))))
              clear hw2 bi hq hr9 hrob bg2 hog hmg hm5 hc5 hj i0 i1 i2 i3 i4 i5 i6 i7 i8 c0 l0 ibw hib b02
              generalize (its.take k).map zI = gk at *
              go_wp2_with (at_builtin; refine list_appendQ (T := tIt) (E := fun t => t ≠ 64 ∧ t ≠ 62) (rb := tb) (base := RC) (xs := gk) (v := .slice Ag gk.length cg) rfl _ _ _ rfl 96 Try.underlying22 (by kernel_rfl) (by decide) rfl (H2.out.2.2.1.below (below_self _ _)) (some ⟨w2.heap.size, 0, none⟩) 1 [.int .i64 ikd, .string inm, .slice A5 ws.length c5, .int .i64 iN, .int .i64 irn, .int .i64 ird, .int .i64 isn, .int .i64 isd, .int .i64 iatt] _ rfl (H2.out.2.2.2.1.below (below_self _ _)) (by have := lies_bk (Bk.new w2 #[.int .i64 ikd, .string inm, .slice A5 ws.length c5, .int .i64 iN, .int .i64 irn, .int .i64 ird, .int .i64 isn, .int .i64 isd, .int .i64 iatt] 57) 1; simpa using this) (by decide) (by omega) (by unfold maxLen; omega) (by omega) (by simp; omega) ?_; intro A8 c8 w8 hown8 hbel8 ho8; have b8 : Below RC w2 w8 := (((below_self w2 _).mono hR2).trans hbel8); have hg9 := H2.out.2.1.below' b8 (by omega); have c9 : w8.cell? ⟨tb, 0, none⟩ = some _ := hg9.cell 0; have f9 := hg9.free 0; have m9 := hg9.lt; have H8 := Lib.hid (And.intro hown8 (And.intro b8 hg9)); clear hown8 hbel8 ho8 b8 hg9)
              go_roundw
              case rel =>
                refine ⟨k + 1, .slice A8 (gk.length + 1) c8, by omega, by go_num, ?_, H8.out.2.2.set_ 0 _, ?_⟩
                · exact (H2.out.2.2.2.2.trans (H8.out.2.1.mono (by omega))).setCell (by simp) _
                · rw [Hst.out]
                  exact H8.out.1.set_ H8.out.2.2 (Nat.le_refl _) (by decide) (by decide) 0 _
              case measure => simp [intOf]; omega
        · obtain rfl : k = its.length := by omega
          rw [List.take_length] at hown
          obtain ⟨Ag, cg, rfl, hcg, hmg⟩ := hown.form
          have hcg' : cg ≤ 9223372036854775807 := by unfold maxLen at hmg; omega
          have hTl : (its.map zI).length ≤ 210 := by rw [List.length_map]; exact hil
          have hTm : ∀ x ∈ its.map zI, x.2.2.1.length ≤ 12 ∧ ∀ l ∈ x.2.2.1, l.length ≤ 8 := fun x hx => by
            obtain ⟨z, hz, rfl⟩ := List.mem_map.1 hx
            obtain ⟨h1, h2⟩ := HFw.out.2 z hz
            refine ⟨by show (z.2.2.1.map (·.map zT)).length ≤ 12; rw [List.length_map]; exact h1, fun l hl => ?_⟩
            obtain ⟨l', h3, rfl⟩ := List.mem_map.1 (show l ∈ z.2.2.1.map (·.map zT) from hl)
            rw [List.length_map]
            exact h2 l' h3
          have hZ1 : (lh.map zLe).length ≤ 10 := by rw [List.length_map]; exact hm1
          have hZ2 : ∀ l ∈ lh.map zLe, l.2.2.1.length + l.2.2.2.1.length ≤ 50 := fun l hl => by
            obtain ⟨z, hz, rfl⟩ := List.mem_map.1 hl
            have := HSm.out.2 z hz
            show (z.2.2.1.map zBl).length + (z.2.2.2.1.map zAr).length ≤ 50
            rw [List.length_map, List.length_map]
            exact this
          have hEg := hown.elems
          have HEK := Lib.hid (HX2.out.2.2.2.2.1.keep hlow (Nat.le_refl _))
          have b1 := HX2.out.2.2.1.below' hlow (by omega)
          have bk := HX2.out.2.2.2.1.below' hlow (by omega)
          rw [show lh.length = (lh.map zLe).length by rw [List.length_map]] at bk
          have HW := Lib.hid (And.intro hwA (And.intro b0 (And.intro b1 (And.intro bk (And.intro bg hEg)))))
          have HC1 := Lib.hid (fun (Z : World) (hZ : Below w.heap.size w Z) => compile_any A its cap hn x y AH lh ch Z w.heap.size (HH.out.1.keep hZ (Nat.le_refl _)) (HH.out.2.keep hZ (Nat.le_refl _)) hZ.size hil hcap hcm HFw.out.2 hm1 HSm.out.2 _ rfl)
          have HST := Lib.hid (fun (Z : World) (hZ : Below w.heap.size w Z) => strange_any hn x y AH lh ch Z w.heap.size (HH.out.2.keep hZ (Nat.le_refl _)) hZ.size hm1 HSm.out.2 HSh.out.1)
          have hnm := fun h => names_z (lh := lh) h its
          have htw : tb ≤ wA.heap.size := by omega
          have hpl : (rulesP (lvlsN lh, blksN lh) its).length ≤ 9223372036854775807 := by have := rulesP_lenN (lvlsN lh, blksN lh) its; omega
          have hfl : (faultsP (lvlsN lh, blksN lh) its).length ≤ 9223372036854775807 := by have := faultsP_lenN (lvlsN lh, blksN lh) its; omega
          have HC2 := Lib.hid (fun (Z : World) (hZ : Below wA.heap.size wA Z) => compile_any Ag (its.map zI) cg hn x y AK (lh.map zLe) cK Z wA.heap.size (hEg.keep hZ (Nat.le_refl _)) (HEK.out.keep (hZ.mono htw) htw) hZ.size hTl hcg hcg' hTm hZ1 hZ2 _ rfl)
          have c1 := b1.cell
          have l1 := b1.lt
          have hlowz := hlow.size
          clear hlow bg hown hmg b0 b1 bk hTm hZ1 hZ2 hEg HX2 hwA hRC
          obtain ⟨L, hL⟩ : ∃ L, (lvlsN lh, blksN lh) = L := ⟨_, rfl⟩
          obtain ⟨L2, hL2⟩ : ∃ L, (lvlsN (lh.map zLe), blksN (lh.map zLe)) = L := ⟨_, rfl⟩
          rw [hL] at HC1 hpl hfl hnm
          rw [hL2] at HC2 hnm
          obtain ⟨ps, hps⟩ : ∃ ps, rulesP L its = ps := ⟨_, rfl⟩
          obtain ⟨fs, hfs⟩ : ∃ fs, faultsP L its = fs := ⟨_, rfl⟩
          rw [hps] at hpl hnm
          rw [hfs] at hfl hnm
          obtain ⟨st, hst⟩ : ∃ st, strangeB lh = st := ⟨_, rfl⟩
          rw [hst] at hnm HST
          have HP := Lib.hid (And.intro hps (And.intro hfs hnm))
          clear hps hfs hnm hL hL2 hst
          generalize its.map zI = tits at *
          generalize lh.map zLe = zlh at *
          cases st
          · go_upto_region 47 with (first
              | (go_at_call 23; (with_reducible refine (HST.out _ HW.out.1).mono ?_); rintro e w' ⟨rfl, hb⟩; have HV := Lib.hid hb; clear hb; have hvz := HV.out.size; have v0 := (HW.out.2.1.below HV.out).cell 0; have v1 := (HW.out.2.2.1.below HV.out).cell; have v2 := (HW.out.2.1.below HV.out).lt; have v3 := (HW.out.2.2.1.below HV.out).lt)
              | (go_at_call 12; (with_reducible refine (HC1.out _ (Below.trans0 HW.out.1 HV.out)).mono ?_); rintro e w'' ⟨hbC, A1, c1', A2, c2', he, hr, hf⟩; rw [HP.out.1, HP.out.2.1] at he; rw [HP.out.1] at hr; rw [HP.out.2.1] at hf; subst he; have HC := Lib.hid (And.intro hbC (And.intro hr hf)); clear hbC hr hf))
            have hbA : Below wA.heap.size wA w'' := HV.out.trans (HC.out.1.mono HV.out.size)
            refine forget (fun Y => Below wA.heap.size wA Y ∧ Bk Y w''.heap.size #[.slice A1 ps.length c1'] 35 ∧ Elems tRl Y Y.heap.size A1 ps ∧ Elems tFa Y Y.heap.size A2 fs) ⟨by have := hbA.size; exact (hbA.trans ((below_self w'' _).mono this)), Bk.new _ _ _, HC.out.2.1.keep (below_self _ _) (by simp), HC.out.2.2.keep (below_self _ _) (by simp)⟩ ?_
            have hwz : wA.heap.size ≤ w''.heap.size := hbA.size
            clear hbA HC HV v0 v1 v2 v3 c1 l1 hvz
            generalize w''.heap.size = pb at *
            rintro Y ⟨hY, bp, hr, hf⟩
            have y0 : Y.cell? ⟨tb, 0, none⟩ = some (.slice Ag tits.length cg) := (HW.out.2.2.2.2.1.below hY).cell 0
            have y1 := (HW.out.2.2.2.1.below hY).cell
            have y2 := (HW.out.2.2.2.2.1.below hY).lt
            have y3 := (HW.out.2.2.2.1.below hY).lt
            have HY := Lib.hid (And.intro hY (And.intro bp (And.intro hr hf)))
            clear hY bp hr hf
            go_upto_region 48 with (go_at_call 12; (with_reducible refine (HC2.out _ HY.out.1).mono ?_); rintro e w'' ⟨hbC, A3, c3', A4, c4', he, hr, hf⟩; rw [(HP.out.2.2 (by first | trivial | rfl)).1, (HP.out.2.2 (by first | trivial | rfl)).2] at he; rw [(HP.out.2.2 (by first | trivial | rfl)).1] at hr; rw [(HP.out.2.2 (by first | trivial | rfl)).2] at hf; subst he; have HC := Lib.hid (And.intro hbC (And.intro hr hf)); clear hbC hr hf)
            refine forget (fun Z => Below w.heap.size w Z ∧ Bk Z pb #[.slice A1 ps.length c1'] 35 ∧ Elems tRl Z Z.heap.size A1 ps ∧ Elems tFa Z Z.heap.size A2 fs ∧ Bk Z w''.heap.size #[.slice A3 ps.length c3'] 35 ∧ Elems tRl Z Z.heap.size A3 ps ∧ Elems tFa Z Z.heap.size A4 fs) ⟨Below.alloc0 (Below.trans0 (Below.trans0 HW.out.1 HY.out.1) HC.out.1) _, (HY.out.2.1.below HC.out.1).alloc _, HY.out.2.2.1.keep (Below.alloc0 HC.out.1 _) (by have := HC.out.1.size; simp; omega), HY.out.2.2.2.keep (Below.alloc0 HC.out.1 _) (by have := HC.out.1.size; simp; omega), Bk.new _ _ _, HC.out.2.1.keep (below_self _ _) (by simp), HC.out.2.2.keep (below_self _ _) (by simp)⟩ ?_
            clear HC HY y0 y1 y2 y3
            generalize w''.heap.size = qb at *
            rintro Z ⟨hZ, b0, hr, hf, b1, hr2, hf2⟩
            have e0 : Z.cell? ⟨pb, 0, none⟩ = some (.slice A1 ps.length c1') := b0.cell 0
            have e1 : Z.cell? ⟨qb, 0, none⟩ = some (.slice A3 ps.length c3') := b1.cell 0
            have l0 := b0.lt
            have l1 := b1.lt
            have HZ := Lib.hid (And.intro hZ (And.intro hr (And.intro hf (And.intro hr2 hf2))))
            clear hZ b0 b1 hr hf hr2 hf2
            go_wp2_with (first
              | (go_at_call 16; refine (same_any ps A1 A3 c1' c3' _ Z.heap.size HZ.out.2.1 HZ.out.2.2.2.1 (Nat.le_refl _) hpl).mono ?_; rintro e w' ⟨rfl, hb⟩; (first | (obtain ⟨u, rfl⟩ := ext_more hb; clear hb) | (obtain ⟨u, rfl⟩ := ext_more_alloc hb; clear hb) | (obtain ⟨u, rfl⟩ := ext_of hb; clear hb)))
              | (go_at_call 17; refine (faults_any A2 fs fs.length c2' A4 fs fs.length c4' _ Z.heap.size (HZ.out.2.2.1.keep (below_ext Z _) (Nat.le_refl _)) (HZ.out.2.2.2.2.keep (below_ext Z _) (Nat.le_refl _)) (size_ext Z _) rfl rfl hfl hfl).mono ?_; rw [sameL_selfN]; rintro e w' ⟨rfl, hb⟩; (first | (obtain ⟨u, rfl⟩ := ext_more hb; clear hb) | (obtain ⟨u, rfl⟩ := ext_more_alloc hb; clear hb) | (obtain ⟨u, rfl⟩ := ext_of hb; clear hb))))
            go_ret
            exact ⟨rfl, by have hw := HZ.out.1; (repeat (first | with_reducible exact Below.refl _ _ | with_reducible assumption | with_reducible refine Below.alloc0 ?_ _ | with_reducible refine Below.ext0 ?_ _ | with_reducible refine Below.drew ?_ | with_reducible refine below_drewN ?_ _ | (with_reducible refine Below.setCell (hp := ?hp) ?_ _; case hp => (first | (simp; done) | (simp; omega)))))⟩
          · go_wp2_with (go_at_call 23; (with_reducible refine (HST.out _ HW.out.1).mono ?_); rintro e w' ⟨rfl, hb⟩; have HV := Lib.hid hb; clear hb)
            go_ret
            exact ⟨rfl, Below.trans0 HW.out.1 HV.out⟩
set_option maxRecDepth 100000 in
theorem resolveNames_lifted (os : Os) (started : os.Started) (H : Type) (enc : TypeId × Value → H) :
    ReturnsInHanded {} Try.checked os 7 .any (Rows.resolveNamesSpec.pre6 enc Try.prog Try.f7 [] false) (Rows.resolveNamesSpec.post enc Try.prog Try.f7 false true false false) := by
  refine law_liftedZ (C := Try.checked) own started (by kernel_rfl) Try.func7 rfl (fun ds hds => ?_) (tb := 4) (by kernel_rfl) Try.underlying4 laidOut (fun t ht => ?_)
    (ChangeSpec.witness6 (enc := enc) (C := Try.checked) false ⟨#[], #[.agg #[.slice none 0 0], .agg #[.string ⟨#[]⟩, .int .i64 0, .int .i64 0, .slice none 0 0]], []⟩ 8 (by kernel_rfl) (by kernel_rfl) (by kernel_rfl) (by kernel_rfl)) ?_
  · rw [Try.params7] at hds
    match ds, hds with
    | [_, _], _ => rfl
  · have := List.all_eq_true.1 (show (Try.f7.params.toList.all fun t => Try.prog.readableRec t && decide (t < Try.prog.types.size)) = true by kernel_rfl) t ht
    simp only [Bool.and_eq_true, decide_eq_true_eq] at this
    exact this
  · intro W args g
    rw [Try.params7] at g
    obtain ⟨v0, q0, e0, g0, h0⟩ := g.cons_inv
    obtain ⟨v1, q1, rfl, g1, h1⟩ := h0.cons_inv
    obtain rfl := h1.nil_inv
    obtain rfl : args = #[v0, v1] := by cases args; simp_all
    obtain ⟨c0, y0, rfl, r0⟩ := g0.agg Try.underlying24 opensRules1
    obtain ⟨c1, y1, rfl, r1⟩ := g1.agg Try.underlying29 opensHa1
    obtain ⟨A, cap, e1, b1, b2, b3, b4⟩ := items_of1 r0
    obtain ⟨hn, a, b, AH, ch, e2, b5, b6, b7⟩ := hall_of1 r1
    rw [e1, e2]
    exact names12 A y0 cap hn a b AH y1.2.2 ch W b3 b6 b1 b2 b5 b7 b4

theorem resolveNames_holds : Rows.ResolveNamesSaid :=
  OpenClaim.holds_of_wide 7 Try.f7 rfl rfl rfl rfl rfl rfl rfl ⟨rfl, rfl, rfl, rfl, rfl⟩ rfl rfl rfl rfl rfl (by kernel_rfl) Try.func7 (by kernel_rfl)
    (of_decide_eq_true (by kernel_rfl)) (by unfold Func.isWrapper; first | (rw [if_pos (by decide +kernel)]; kernel_rfl) | (rw [if_neg (by decide +kernel)]; exact ⟨rfl, rfl⟩))
    (fun os started H enc _ => resolveNames_lifted os started H enc)
#print axioms resolveNames_holds


end Go.Proofs.Ytecjhniomjmocaa
