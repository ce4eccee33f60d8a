/- PriceGrows: no line is less for the greater price or more places; without fee and tax the total is the face value; for every decision, greater price, and numbers of places; no condition. -/
import Derived.Test.YtkdbhckbdglhjaaPriceP
namespace Go.Proofs.Ytkdbhckbdglhjaa
open Go.RowKit Go.ChangeAt
set_option linter.unusedVariables false
set_option linter.unusedSimpArgs false
attribute [local go_sem] ext_cell ext_frozen lt_ext ext_drew

/-- What a greater price and more places do to a bill. -/
theorem grows {al : Bool} {price hp fn fd tn td a b : Int} {F1 r1 s1 F2 r2 s2 : Int} (h : ratioB fn fd = true) (h' : ratioB tn td = true) (hab : a ≤ b) (ha : 1 ≤ a) (hp0 : 0 ≤ price) (hpp : price ≤ hp)
    (e1 : a * price = F1) (e2 : roundP (F1 * fn) fd = r1) (e3 : roundP ((F1 + r1) * tn) td = s1) (e4 : b * hp = F2) (e5 : roundP (F2 * fn) fd = r2) (e6 : roundP ((F2 + r2) * tn) td = s2) : F1 ≤ F2 ∧ r1 ≤ r2 ∧ s1 ≤ s2 := by
  have hf := ratioB_out h
  have ht := ratioB_out h'
  have hF : F1 ≤ F2 := by
    rw [← e1, ← e4]
    exact Int.mul_le_mul hab hpp hp0 (by omega)
  have hr : r1 ≤ r2 := by
    rw [← e2, ← e5]
    exact round_mono (by omega) (Int.mul_le_mul_of_nonneg_right hF (by omega))
  refine ⟨hF, hr, ?_⟩
  rw [← e3, ← e6]
  exact round_mono (by omega) (Int.mul_le_mul_of_nonneg_right (by omega) (by omega))

theorem bare_quote {price a F1 : Int} (h1 : 1 ≤ a) (h2 : a ≤ 12) (h3 : 0 ≤ price) (h4 : price ≤ 1000000000) (e : a * price = F1) (hF : 0 ≤ F1) (hF2 : F1 ≤ 1000000000) : quoteE true price 0 1 0 7 a = 0 ∧ quoteL true price 0 1 0 7 a = [(1, F1), (2, 0), (3, 0)] := by
  have z1 : roundP (F1 * 0) 1 = 0 := by rw [Int.mul_zero, round_zero 1 (by omega)]
  have z2 : roundP ((F1 + 0) * 0) 7 = 0 := by rw [Int.mul_zero, round_zero 7 (by omega)]
  obtain ⟨q1, q2, q3, q4⟩ := quote_tests a price 0 1 0 7 h1 h2 h3 h4 (by decide) (by decide) F1 0 0 e z1 z2
  have hv : validB F1 = true := validB_in (by omega)
  have hE : quoteE true price 0 1 0 7 a = 0 := by
    rw [q1, Int.add_zero, Int.add_zero, hv]; decide
  refine ⟨hE, ?_⟩
  unfold quoteL
  rw [if_pos hE, q2, q3, q4]

set_option maxRecDepth 100000 in
set_option maxHeartbeats 2000000 in
theorem grows_walk (al to si : Bool) (lim price fn fd tn td cn cd sn sd rn rd y more n m : Int) (w : World) (hpf : fits price) (hmore : 0 ≤ more ∧ more ≤ 4294967295) (hn : 0 ≤ n ∧ n ≤ 255) (hm : 0 ≤ m ∧ m ≤ 255) :
    Calls Try.prog 6 #[.agg (decCells al to si lim price fn fd tn td cn cd sn sd rn rd y), .int .u32 more, .int .u8 n, .int .u8 m] w fun e w' => e = .returned (.bool true) ∧ Below w.heap.size w w' := by
  unfold decCells
  unfold fits at hpf
  obtain ⟨q1, q2⟩ := hmore
  obtain ⟨q3, q4⟩ := hn
  obtain ⟨q5, q6⟩ := hm
  go_enter Try.func6, Try.ntmps6
  go_wp2_with fail
  refine (head_any _).mono ?_
  rintro e w1 ⟨rfl, hb⟩
  have HB := Lib.hid (And.intro (Below.trans0 (below_self w _) hb) ((Bk.new w #[.bool al, .bool to, .bool si, .int .i64 lim, .int .i64 price, .int .i64 fn, .int .i64 fd, .int .i64 tn, .int .i64 td, .int .i64 cn, .int .i64 cd, .int .i64 sn, .int .i64 sd, .int .i64 rn, .int .i64 rd, .int .i64 y] 25).below hb))
  clear hb
  have c1 := HB.out.2.cell
  have l1 := HB.out.2.lt
  go_upto_region 3 with (fail)
  obtain ⟨a, ha⟩ : ∃ a, 1 + n % 12 = a := ⟨_, rfl⟩
  rw [ha]
  have a1 : 1 ≤ a := by omega
  have a2 : a ≤ 12 := by omega
  clear ha
  have a3 : ¬ 13 - a = 0 := by omega
  have a4 : 0 ≤ 13 - a := by omega
  have a5 : 0 ≤ m % (13 - a) := Int.emod_nonneg _ (by omega)
  have a6 : m % (13 - a) < 13 - a := Int.emod_lt_of_pos _ (by omega)
  go_upto_region 4 with (fail)
  obtain ⟨b, hb⟩ : ∃ b, a + m % (13 - a) = b := ⟨_, rfl⟩
  rw [hb]
  have b1 : a ≤ b := by omega
  have b2 : b ≤ 12 := by omega
  clear hb a3 a4 a5 a6
  have hmx := ite_max
  have hmn := ite_min
  have m1 : 0 ≤ more % 1000000 := by omega
  have m2 : more % 1000000 < 1000000 := by omega
  go_upto_region 6 with (fail)
  have hpb : 0 ≤ price → price ≤ 1000000000 → price ≤ min (max price 0) 1000000000 + more % 1000000 := fun h1 h2 => by omega
  have Hpb := Lib.hid hpb
  clear hpb m1 m2 hmx hmn
  obtain ⟨hp, hhp⟩ : ∃ z, min (max price 0) 1000000000 + more % 1000000 = z := ⟨_, rfl⟩
  rw [hhp]
  have Hpb2 : Hid (0 ≤ price → price ≤ 1000000000 → price ≤ hp) := by rw [← hhp]; exact Hpb.out
  clear hhp Hpb
  refine forget (fun W => Below w.heap.size w W ∧ Bk W w.heap.size #[.bool al, .bool to, .bool si, .int .i64 lim, .int .i64 price, .int .i64 fn, .int .i64 fd, .int .i64 tn, .int .i64 td, .int .i64 cn, .int .i64 cd, .int .i64 sn, .int .i64 sd, .int .i64 rn, .int .i64 rd, .int .i64 y] 25 ∧ Bk W w1.heap.size #[.bool al, .bool to, .bool si, .int .i64 lim, .int .i64 hp, .int .i64 fn, .int .i64 fd, .int .i64 tn, .int .i64 td, .int .i64 cn, .int .i64 cd, .int .i64 sn, .int .i64 sd, .int .i64 rn, .int .i64 rd, .int .i64 y] 25) ⟨?_, ?_, ?_⟩ ?_
  · have hw := HB.out.1; (repeat (first | with_reducible exact Below.refl _ _ | with_reducible assumption | with_reducible refine Below.alloc0 ?_ _ | with_reducible refine Below.ext0 ?_ _ | with_reducible refine Below.drew ?_ | with_reducible refine below_drewN ?_ _ | (with_reducible refine Below.setCell (hp := ?hp) ?_ _; case hp => (first | (simp; done) | (simp; omega)))))
  · exact HB.out.2.alloc _
  · exact Bk.new _ _ _
  clear c1
  generalize w1.heap.size = g at *
  clear HB
  rintro W ⟨hw, bD, bH⟩
  have HB := Lib.hid (And.intro hw (And.intro bD bH))
  clear hw bD bH
  have c1 := HB.out.2.1.cell
  have l2 := HB.out.2.1.lt
  obtain ⟨er, her⟩ : ∃ x, quoteE al price fn fd tn td a = x := ⟨_, rfl⟩
  obtain ⟨L1, hL1⟩ : ∃ x, quoteL al price fn fd tn td a = x := ⟨_, rfl⟩
  obtain ⟨fr, hfr⟩ : ∃ x, quoteE al hp fn fd tn td b = x := ⟨_, rfl⟩
  obtain ⟨L2, hL2⟩ : ∃ x, quoteL al hp fn fd tn td b = x := ⟨_, rfl⟩
  have Her := Lib.hid her
  have HL1 := Lib.hid hL1
  have Hfr := Lib.hid hfr
  have HL2 := Lib.hid hL2
  clear her hL1 hfr hL2
  go_wp2_with fail
  refine (quote_is er L1 _ _ _ _ _ _ _ _ _ _ _ _ _ _ _ _ _ _ Her HL1).mono ?_
  rintro e w2 ⟨A1, k1, rfl, hE, hk1, _, _, hb⟩
  have HX := Lib.hid (And.intro (Below.trans0 HB.out.1 hb) (And.intro (HB.out.2.1.below hb) (And.intro (HB.out.2.2.below hb) hE)))
  clear hb HB c1 l2 hE
  have c1 := HX.out.2.2.1.cell
  have l2 := HX.out.2.2.1.lt
  go_wp2_with fail
  refine (quote_is fr L2 _ _ _ _ _ _ _ _ _ _ _ _ _ _ _ _ _ _ Hfr HL2).mono ?_
  rintro e w3 ⟨A2, k2, rfl, hE2, hk2, _, hF2, hb⟩
  have hb' : Below w2.heap.size w2 w3 := Below.trans0 (below_self _ _) hb
  have HY := Lib.hid (And.intro (HX.out.1.trans (hb'.mono HX.out.1.size)) (And.intro (HX.out.2.1.below hb') (And.intro (HX.out.2.2.2.keep hb' hb'.size) (And.intro hE2 ((Bk.new w2 #[.slice A1 L1.length k1, .int .i64 (sumOf L1)] 28).below hb)))))
  clear hb hb' hE2 HX c1 l2 hF2
  generalize w2.heap.size = x at *
  by_cases hg : er = 0 ∧ fr = 0
  · as_aux_lemma =>
      obtain ⟨rfl, rfl⟩ := hg
      obtain ⟨hal, _, ⟨p1, p2⟩, hrf, hrt, F1, r1, s1, e1, e2, e3, hL1, g0, g1, g2, g3⟩ := quote_good Her.out
      obtain ⟨_, _, _, _, _, F2, r2, s2, e4, e5, e6, hL2, h0, h1, h2, h3⟩ := quote_good Hfr.out
      obtain rfl : L1 = [(1, F1), (2, r1), (3, s1)] := HL1.out.symm.trans hL1
      obtain rfl : L2 = [(1, F2), (2, r2), (3, s2)] := HL2.out.symm.trans hL2
      have es1 : sumOf [(1, F1), (2, r1), (3, s1)] = F1 + r1 + s1 := by simp [sumOf]; omega
      have es2 : sumOf [(1, F2), (2, r2), (3, s2)] = F2 + r2 + s2 := by simp [sumOf]; omega
      obtain ⟨m1, m2, m3⟩ := grows (al := al) hrf hrt b1 a1 p1 (Hpb2.out p1 p2) e1 e2 e3 e4 e5 e6
      obtain ⟨z1, z2⟩ := bare_quote a1 a2 p1 p2 e1 g0 (by omega)
      have k1' : (3 : Int) ≤ k1 := by simp at hk1; omega
      have k2' : (3 : Int) ≤ k2 := by simp at hk2; omega
      rw [hal] at Her Hfr
      subst hal
      have Z1 := Lib.hid z1
      have Z2 := Lib.hid z2
      rw [es1, es2]
      clear e1 e2 e3 e4 e5 e6 es1 es2 hL1 hL2 hrf hrt HL1 HL2 Her Hfr hk1 hk2 Hpb2 z1 z2
      go_upto_region 8 with (fail)
      refine forget (fun W => Below w.heap.size w W ∧ Bk W w.heap.size #[.bool true, .bool to, .bool si, .int .i64 lim, .int .i64 price, .int .i64 fn, .int .i64 fd, .int .i64 tn, .int .i64 td, .int .i64 cn, .int .i64 cd, .int .i64 sn, .int .i64 sd, .int .i64 rn, .int .i64 rd, .int .i64 y] 25 ∧ Bk W x #[.slice A1 3 k1, .int .i64 (F1 + r1 + s1)] 28 ∧ Bk W w3.heap.size #[.slice A2 3 k2, .int .i64 (F2 + r2 + s2)] 28 ∧ Elems tLine W W.heap.size A1 [(1, F1), (2, r1), (3, s1)] ∧ Elems tLine W W.heap.size A2 [(1, F2), (2, r2), (3, s2)]) ⟨?_, ?_, ?_, ?_, ?_, ?_⟩ ?_
      · have hw := HY.out.1; (repeat (first | with_reducible exact Below.refl _ _ | with_reducible assumption | with_reducible refine Below.alloc0 ?_ _ | with_reducible refine Below.ext0 ?_ _ | with_reducible refine Below.drew ?_ | with_reducible refine below_drewN ?_ _ | (with_reducible refine Below.setCell (hp := ?hp) ?_ _; case hp => (first | (simp; done) | (simp; omega)))))
      · exact HY.out.2.1.alloc _
      · have h := HY.out.2.2.2.2.alloc (.cells #[.slice A2 3 k2, .int .i64 (F2 + r2 + s2)] 28)
        have es1 : sumOf [(1, F1), (2, r1), (3, s1)] = F1 + r1 + s1 := by simp [sumOf]; omega
        rw [es1] at h
        exact h
      · exact Bk.new _ _ _
      · exact HY.out.2.2.1.keep (below_self _ _) (by simp)
      · exact HY.out.2.2.2.1.keep (below_self _ _) (by simp)
      generalize w3.heap.size = z at *
      clear HY
      rintro W ⟨hw, bD, bX, bZ, hE1, hE2⟩
      obtain ⟨b', off', rfl, hbl', d0', d1', d2', d3', d4', d5', _⟩ := three_cells hE2
      obtain ⟨bb, off, rfl, hbl, d0, d1, d2, d3, d4, d5, _⟩ := three_cells hE1
      have HW := Lib.hid (And.intro hw (And.intro bD (And.intro bX hE1)))
      have cX := bX.cell
      have lX := bX.lt
      have cZ := bZ.cell
      have lZ := bZ.lt
      clear hw bD bX bZ hE1 hE2 d0 d2 d4 d0' d2' d4'
      go_wp2_with fail
      go_loopw [17] (fun i wr => ∃ (k : Nat) (q : Nat), k ≤ 3 ∧ i = .int .i64 k ∧ wr = W.drewN q) (fun i _ => 3 - (intOf i).toNat)
      case atStart => exact ⟨0, 0, by omega, rfl, rfl⟩
      case round =>
        obtain ⟨k, q, hk, rfl, rfl⟩ := hrel
        by_cases h3 : k = 3
        · as_aux_lemma =>
            subst h3
            go_upto_region 17 with (fail)
            refine forget (fun X => Below w.heap.size w X ∧ Bk X w.heap.size #[.bool true, .bool to, .bool si, .int .i64 lim, .int .i64 price, .int .i64 fn, .int .i64 fd, .int .i64 tn, .int .i64 td, .int .i64 cn, .int .i64 cd, .int .i64 sn, .int .i64 sd, .int .i64 rn, .int .i64 rd, .int .i64 y] 25 ∧ Bk X x #[.slice (some ⟨bb, off, none⟩) 3 k1, .int .i64 (F1 + r1 + s1)] 28 ∧ Elems tLine X X.heap.size (some ⟨bb, off, none⟩) [(1, F1), (2, r1), (3, s1)]) ⟨?_, ?_, ?_, ?_⟩ ?_
            · have hw := HW.out.1; (repeat (first | with_reducible exact Below.refl _ _ | with_reducible assumption | with_reducible refine Below.alloc0 ?_ _ | with_reducible refine Below.ext0 ?_ _ | with_reducible refine Below.drew ?_ | with_reducible refine below_drewN ?_ _ | (with_reducible refine Below.setCell (hp := ?hp) ?_ _; case hp => (first | (simp; done) | (simp; omega)))))
            · exact HW.out.2.1
            · exact HW.out.2.2.1
            · exact HW.out.2.2.2.keep (below_drewN (Below.refl _ _) _) (Nat.le_refl _)
            clear HW cX lX cZ lZ d1 d3 d5 d1' d3' d5'
            rintro X ⟨hw, bD, bX, hE⟩
            have cD := bD.cell
            have lD := bD.lt
            have lxX : x < X.heap.size := bX.lt
            have lbX : bb < X.heap.size := by obtain ⟨b9, o9, h9, l9, _⟩ := three_cells hE; simp only [Option.some.injEq, Addr.mk.injEq] at h9; omega
            have hD9 : w.heap.size ≤ X.heap.size := hw.size
            have HW := Lib.hid (And.intro hw (And.intro bD (And.intro bX hE)))
            clear hw bD bX hE
            go_wp2_with fail
            refine (ratio_any _ _ _).mono ?_
            rintro e x2 ⟨rfl, hb⟩
            have hb' : Below X.heap.size X x2 := Below.trans0 (below_self _ _) hb
            have HV := Lib.hid (And.intro (HW.out.1.trans (hb'.mono HW.out.1.size)) (And.intro (HW.out.2.2.1.below hb') (And.intro (HW.out.2.2.2.keep hb' hb'.size) ((Bk.new X #[.bool true, .bool to, .bool si, .int .i64 lim, .int .i64 price, .int .i64 fn, .int .i64 fd, .int .i64 tn, .int .i64 td, .int .i64 cn, .int .i64 cd, .int .i64 sn, .int .i64 sd, .int .i64 rn, .int .i64 rd, .int .i64 y] 25).below hb))))
            clear hb hb' HW cD lD
            generalize X.heap.size = bare at *
            have cB := HV.out.2.2.2.cell
            have fB := HV.out.2.2.2.free
            have lB := HV.out.2.2.2.lt
            have hset : Only (fun g => g = bare) x2 ((x2.setCell ⟨bare, 5, none⟩ (.int .i64 0)).setCell ⟨bare, 6, none⟩ (.int .i64 1)) := ((Only.refl (fun g => g = bare) x2).set_ (p := ⟨bare, 5, none⟩) (.inl rfl) _).set_ (p := ⟨bare, 6, none⟩) (.inl rfl) _
            go_wp2_with fail
            refine (ratio_any _ _ _).mono ?_
            rintro e x3 ⟨rfl, hb⟩
            have hsz : x2.heap.size ≤ x3.heap.size := by have := hb.size; simpa [World.setCell] using this
            have HU := Lib.hid (And.intro (Below.trans0 (HV.out.1.trans (hset.to_below (by intro g h; omega) HV.out.1.size)) hb) (And.intro ((HV.out.2.1.only hset (by omega)).below hb) (And.intro (((HV.out.2.2.1.only (flat_pair flat_int flat_int) hset (Nat.le_refl _) (fun g o h e => by simp only [Option.some.injEq, Addr.mk.injEq] at h; omega)).keep (hb.mono (by simp [World.setCell])) hsz)) (((HV.out.2.2.2.set_ 5 (.int .i64 0)).set_ 6 (.int .i64 1)).below hb))))
            clear hset hb hsz HV cB fB lB
            have cB : ∀ i, x3.cell? ⟨bare, i, none⟩ = (#[.bool true, .bool to, .bool si, .int .i64 lim, .int .i64 price, .int .i64 0, .int .i64 1, .int .i64 tn, .int .i64 td, .int .i64 cn, .int .i64 cd, .int .i64 sn, .int .i64 sd, .int .i64 rn, .int .i64 rd, .int .i64 y] : Array Value)[i]? := HU.out.2.2.2.cell
            have fB := HU.out.2.2.2.free
            have lB := HU.out.2.2.2.lt
            have hset : Only (fun g => g = bare) x3 ((x3.setCell ⟨bare, 7, none⟩ (.int .i64 0)).setCell ⟨bare, 8, none⟩ (.int .i64 7)) := ((Only.refl (fun g => g = bare) x3).set_ (p := ⟨bare, 7, none⟩) (.inl rfl) _).set_ (p := ⟨bare, 8, none⟩) (.inl rfl) _
            go_wp2_with fail
            refine (quote_is 0 [(1, F1), (2, 0), (3, 0)] _ _ _ _ _ _ _ _ _ _ _ _ _ _ _ _ _ _ Z1 Z2).mono ?_
            rintro e x4 ⟨A3, k3, rfl, _, _, _, _, hb⟩
            have hsz : x3.heap.size ≤ x4.heap.size := by have := hb.size; simpa [World.setCell] using this
            have HT := Lib.hid (And.intro (Below.trans0 (HU.out.1.trans (hset.to_below (by intro g h; omega) HU.out.1.size)) hb) (And.intro ((HU.out.2.1.only hset (by omega)).below hb) ((HU.out.2.2.1.only (flat_pair flat_int flat_int) hset (Nat.le_refl _) (fun g o h e => by simp only [Option.some.injEq, Addr.mk.injEq] at h; omega)).keep (hb.mono (by simp [World.setCell])) hsz)))
            clear hset hb hsz HU cB fB lB
            have es3 : sumOf [(1, F1), (2, 0), (3, 0)] = F1 := by simp [sumOf]
            rw [es3]
            clear es3
            go_upto_region 21 with (fail)
            refine forget (fun Y => Below w.heap.size w Y ∧ Bk Y x #[.slice (some ⟨bb, off, none⟩) 3 k1, .int .i64 (F1 + r1 + s1)] 28 ∧ Bk Y x4.heap.size #[.slice A3 3 k3, .int .i64 F1] 28 ∧ Elems tLine Y Y.heap.size (some ⟨bb, off, none⟩) [(1, F1), (2, r1), (3, s1)]) ⟨?_, ?_, ?_, ?_⟩ ?_
            · have hw := HT.out.1; (repeat (first | with_reducible exact Below.refl _ _ | with_reducible assumption | with_reducible refine Below.alloc0 ?_ _ | with_reducible refine Below.ext0 ?_ _ | with_reducible refine Below.drew ?_ | with_reducible refine below_drewN ?_ _ | (with_reducible refine Below.setCell (hp := ?hp) ?_ _; case hp => (first | (simp; done) | (simp; omega)))))
            · exact HT.out.2.1.alloc _
            · exact Bk.new _ _ _
            · exact HT.out.2.2.keep (below_self _ _) (by simp)
            generalize x4.heap.size = zz at *
            clear HT
            rintro Y ⟨hw, bX, bZ, hE⟩
            obtain ⟨bb', off', hA, hbb2, d0, d1, d2, d3, d4, d5, _⟩ := three_cells hE
            simp only [Option.some.injEq, Addr.mk.injEq, and_true] at hA
            obtain ⟨rfl, rfl⟩ := hA
            have cX := bX.cell
            have lX := bX.lt
            have cZ := bZ.cell
            have lZ := bZ.lt
            have HW := Lib.hid hw
            clear hw bX bZ hE d0 d2 d3 d4 d5
            refine wp_region_ext _ (by kernel_rfl) (by kernel_rfl) ?_
            repeat (go_big_quiet_step (fail))
            refine wpQuiet_nil (fun v => ?_)
            go_wp2_with fail
            go_ret
            exact ⟨ret_bool (by simp; try omega), by have hw := HW.out; (repeat (first | with_reducible exact Below.refl _ _ | with_reducible assumption | with_reducible refine Below.alloc0 ?_ _ | with_reducible refine Below.ext0 ?_ _ | with_reducible refine Below.drew ?_ | with_reducible refine below_drewN ?_ _ | (with_reducible refine Below.setCell (hp := ?hp) ?_ _; case hp => (first | (simp; done) | (simp; omega)))))⟩
        · rcases (show k = 0 ∨ k = 1 ∨ k = 2 by omega) with rfl | rfl | rfl
          all_goals
            go_wp2_with fail
            go_quiet (fail)
            go_wp2_with fail
            go_roundw
            case rel => first | exact ⟨1, _, by omega, rfl, rfl⟩ | exact ⟨2, _, by omega, rfl, rfl⟩ | exact ⟨3, _, by omega, rfl, rfl⟩
            case measure => decide
  · by_cases he : er = 0
    · subst he
      have hf : fr ≠ 0 := fun h => hg ⟨rfl, h⟩
      go_wp2_with fail
      go_ret
      exact ⟨rfl, by have hw := HY.out.1; (repeat (first | with_reducible exact Below.refl _ _ | with_reducible assumption | with_reducible refine Below.alloc0 ?_ _ | with_reducible refine Below.ext0 ?_ _ | with_reducible refine Below.drew ?_ | with_reducible refine below_drewN ?_ _ | (with_reducible refine Below.setCell (hp := ?hp) ?_ _; case hp => (first | (simp; done) | (simp; omega)))))⟩
    · go_wp2_with fail
      go_ret
      exact ⟨rfl, by have hw := HY.out.1; (repeat (first | with_reducible exact Below.refl _ _ | with_reducible assumption | with_reducible refine Below.alloc0 ?_ _ | with_reducible refine Below.ext0 ?_ _ | with_reducible refine Below.drew ?_ | with_reducible refine below_drewN ?_ _ | (with_reducible refine Below.setCell (hp := ?hp) ?_ _; case hp => (first | (simp; done) | (simp; omega)))))⟩

set_option maxRecDepth 100000 in
theorem priceGrows_lifted (os : Os) (started : os.Started) (H : Type) (enc : TypeId × Value → H) :
    ReturnsInHanded {} Try.checked os 6 .any (Rows.priceGrowsSpec.pre6 enc Try.prog Try.f6 [] false) (Rows.priceGrowsSpec.post enc Try.prog Try.f6 false true false false) := by
  refine law_lifted (C := Try.checked) own started (by kernel_rfl) Try.func6 rfl (fun ds hds => ?_) (tb := 4) (by kernel_rfl) Try.underlying4 laidOut (fun t ht => ?_)
    (ChangeSpec.witness6 (enc := enc) (C := Try.checked) false ⟨#[], #[.agg #[.bool false, .bool false, .bool false, .int .i64 0, .int .i64 0, .int .i64 0, .int .i64 0, .int .i64 0, .int .i64 0, .int .i64 0, .int .i64 0, .int .i64 0, .int .i64 0, .int .i64 0, .int .i64 0, .int .i64 0], .int .u32 0, .int .u8 0, .int .u8 0], []⟩ 8 (by kernel_rfl) (by kernel_rfl) (by kernel_rfl) (by kernel_rfl)) ?_
  · rw [Try.params6] at hds
    match ds, hds with
    | [_, _, _, _], _ => rfl
  · have := List.all_eq_true.1 (show (Try.f6.params.toList.all fun t => Try.prog.readableRec t && decide (t < Try.prog.types.size)) = true by kernel_rfl) t ht
    simp only [Bool.and_eq_true, decide_eq_true_eq] at this
    exact this
  · intro W args g
    rw [Try.params6] at g
    obtain ⟨v0, q0, e0, g0, h0⟩ := g.cons_inv
    obtain ⟨v1, q1, rfl, g1, h1⟩ := h0.cons_inv
    obtain ⟨v2, q2, rfl, g2, h2⟩ := h1.cons_inv
    obtain ⟨v3, q3, rfl, g3, h3⟩ := h2.cons_inv
    obtain rfl := h3.nil_inv
    obtain rfl : args = #[v0, v1, v2, v3] := by cases args; simp_all
    obtain ⟨c0, y0, rfl, r0⟩ := g0.agg Try.underlying25 opensDec
    obtain ⟨more, rfl, x1⟩ := g1.u32 Try.underlying41 (by kernel_rfl)
    obtain ⟨n, rfl, x2⟩ := g2.u8 Try.underlying5 (by kernel_rfl)
    obtain ⟨m, rfl, x3⟩ := g3.u8 Try.underlying5 (by kernel_rfl)
    obtain ⟨al, to, si, lim, price, fn, fd, tn, td, cn, cd, sn, sd, rn, rd, y, rfl, hp, _⟩ := dec_of r0
    exact grows_walk al to si lim price fn fd tn td cn cd sn sd rn rd y more n m W hp x1 x2 x3

theorem priceGrows_holds : Rows.PriceGrowsSaid :=
  OpenClaim.holds_of_wide 6 Try.f6 rfl rfl rfl rfl rfl rfl rfl ⟨rfl, rfl, rfl, rfl, rfl⟩ rfl rfl rfl rfl rfl (by kernel_rfl) Try.func6 (by kernel_rfl)
    (of_decide_eq_true (by kernel_rfl)) (by unfold Func.isWrapper; first | (rw [if_pos (by decide +kernel)]; kernel_rfl) | (rw [if_neg (by decide +kernel)]; exact ⟨rfl, rfl⟩))
    (fun os started H enc _ => priceGrows_lifted os started H enc)
#print axioms priceGrows_holds
end Go.Proofs.Ytkdbhckbdglhjaa
