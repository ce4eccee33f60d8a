/- Layer 13 (decide): the reference's Valid. -/
import Derived.Test.YtmklcfmdcfbpeaaDecD
namespace Go.Proofs.Ytmklcfmdcfbpeaa
open Go.RowKit
set_option linter.unusedVariables false
set_option linter.unusedSimpArgs false
attribute [local go_sem] ext_cell ext_frozen lt_ext ext_drew

theorem hasN_hit {rs : List Rl} {k j : Nat} {r : Rl} (hr : rs[j]? = some r) (hj : j < k) : hasN (rs.take k) r.2.1 = true := by
  unfold hasN
  rw [List.any_eq_true]
  exact ⟨r, List.mem_of_getElem? (i := j) (by rw [List.getElem?_take_of_lt hj]; exact hr), by simp⟩

set_option maxRecDepth 100000 in
set_option maxHeartbeats 8000000 in
theorem rvalid_any (A : Option Addr) (rs : List Rl) (cap n : Nat) (w : World) (B : Nat) (h : Elems tRl w B A rs) (hB : B ≤ w.heap.size) (hn : rs.length = n) (hl : n ≤ 9223372036854775807) :
    Calls Try.prog 15 #[.agg #[.slice A n cap]] w fun e w' => e = .returned (.bool (validP rs)) ∧ Below w.heap.size w w' := by
  subst hn
  obtain ⟨r, hr⟩ : ∃ r, validP rs = r := ⟨_, rfl⟩
  rw [hr]
  have Hr := Lib.hid hr
  have HH := Lib.hid h
  clear h hr
  by_cases h200 : rs.length ≤ 200
  · have h200' : (rs.length : Int) ≤ 200 := by omega
    have hgood : Hid (goodB rs = r) := Lib.hid (by rw [← Hr.out]; unfold validP; rw [decide_eq_true h200]; rfl)
    go_enter Try.func15, Try.ntmps15
    go_wp2_with fail
    refine (rlimits_any _).mono ?_
    rintro e w1 ⟨rfl, hb⟩
    have HB := Lib.hid (And.intro (Below.trans0 (below_self w _) hb) ((Bk.new w #[.slice A rs.length cap] 24).below hb))
    clear hb
    go_upto_region 4 with (refine list_store_fresh (o := ⟨none, .store 44 _ _, _, _, _, _⟩) rfl _ _ _ rfl (znV limZ) rfl rfl info_zone rfl (one_pairs limZ) ?_)
    refine forget (fun W => Below w.heap.size w W ∧ Bk W w.heap.size #[.slice A rs.length cap] 24 ∧ Bk W w1.heap.size (znV limZ) 44) ⟨Below.alloc0 HB.out.1 _, HB.out.2.alloc _, Bk.new _ _ _⟩ ?_
    rintro W ⟨hw, b0, b1⟩
    have HE := Lib.hid (HH.out.keep (hw.mono hB) (Nat.le_refl _))
    have HW := Lib.hid (And.intro hw (And.intro b0 b1))
    have hBW : B ≤ W.heap.size := Nat.le_trans hB hw.size
    have hlW1 := b1.lt
    generalize w1.heap.size = g at *
    clear hw b0 b1 HB HH
    go_wp2_with fail
    go_loopw [4] (fun i wr => ∃ (k : Nat), k ≤ rs.length ∧ i = .int .i64 k ∧ goodTo rs k ∧ Below W.heap.size W wr) (fun i _ => rs.length - (intOf i).toNat)
    case atStart => exact ⟨0, by omega, rfl, fun j hj => by omega, Below.refl _ _⟩
    case round =>
      obtain ⟨k, hk, rfl, hall, hlow⟩ := hrel
      have hE := HE.out.keep (hlow.mono hBW) (Nat.le_refl _)
      have hb0 := HW.out.2.1.below hlow
      have c0 : wr.cell? ⟨w.heap.size, 0, none⟩ = some (.slice A rs.length cap) := hb0.cell 0
      have l0 := hb0.lt
      have hws := hlow.size
      have hfin : Hid (Below w.heap.size w wr) := Lib.hid (Below.trans0 HW.out.1 hlow)
      have HX := Lib.hid (And.intro hall (And.intro hlow (And.intro hb0 (HW.out.2.2.below hlow))))
      have hlg := (HW.out.2.2.below hlow).lt
      clear hall hlow hb0
      by_cases hlt : k < rs.length
      · obtain ⟨b, off, kd, nm, AZ, zs, zc, num, rn, rd, sn, sd, rfl, hb, Hk, d0, d1, d2, d3, d4, d5, d6, d7, f1, f2, f3, hZ, _, _⟩ := pick_rule hE hlt
        have bw : b < wr.heap.size := by omega
        have hzl : zs.length ≤ 9223372036854775807 := by unfold maxLen at f3; omega
        have hkl : (k : Int) < (rs.length : Int) := by omega
        have Hstep : Hid (badAt rs k (kd, nm, zs, num, (rn, rd), (sn, sd)) = false → goodTo rs (k + 1)) := Lib.hid fun h => goodTo_step HX.out.1 Hk.out h
        have Hbad : Hid (badAt rs k (kd, nm, zs, num, (rn, rd), (sn, sd)) = true → r = false) := Lib.hid fun h => by rw [← hgood.out]; exact goodB_bad Hk.out h
        have HEk := Lib.hid hE
        have HZ := Lib.hid (hZ.keep (below_self wr (.cells #[.int .i64 kd, .string nm, .slice AZ zs.length zc, .int .i64 num, .int .i64 rn, .int .i64 rd, .int .i64 sn, .int .i64 sd] 34) |>.mono (by omega)) (Nat.le_refl _))
        obtain ⟨nb, hnb⟩ : ∃ v, numsB kd num rn rd sn sd = v := ⟨_, rfl⟩
        have Hnums : Hid (∀ X, Calls Try.prog 29 #[.agg #[.int .i64 kd, .string nm, .slice AZ zs.length zc, .int .i64 num, .int .i64 rn, .int .i64 rd, .int .i64 sn, .int .i64 sd]] X fun e w' => e = .returned (.bool nb) ∧ Below X.heap.size X w') := Lib.hid fun X => by
          have := rnumbers_any kd nm AZ zs.length zc num rn rd sn sd X
          rwa [hnb] at this
        have Hnb := Lib.hid hnb
        clear hE hZ f1 f2 f3 hnb
        cases nb
        · obtain rfl : r = false := Hbad.out (by unfold badAt badR; rw [Hnb.out]; simp)
          go_wp2_with (go_at_call 29; refine (Hnums.out _).mono ?_; rintro e w' ⟨rfl, hb⟩; obtain ⟨u, rfl⟩ := ext_of hb; clear hb)
          go_ret
          exact ⟨rfl, by have hw := hfin.out; (repeat (first | with_reducible exact Below.refl _ _ | with_reducible assumption | with_reducible refine Below.alloc0 ?_ _ | with_reducible refine Below.ext0 ?_ _ | with_reducible refine Below.drew ?_ | with_reducible refine below_drewN ?_ _ | (with_reducible refine Below.setCell (hp := ?hp) ?_ _; case hp => (first | (simp; done) | (simp; omega)))))⟩
        · by_cases hz200 : 200 < zs.length
          · have hz200' : (200 : Int) < (zs.length : Int) := by omega
            obtain rfl : r = false := Hbad.out (by unfold badAt badR; rw [Hnb.out, decide_eq_true hz200]; simp)
            go_wp2_with (go_at_call 29; refine (Hnums.out _).mono ?_; rintro e w' ⟨rfl, hb⟩; obtain ⟨u, rfl⟩ := ext_of hb; clear hb)
            go_ret
            exact ⟨rfl, by have hw := hfin.out; (repeat (first | with_reducible exact Below.refl _ _ | with_reducible assumption | with_reducible refine Below.alloc0 ?_ _ | with_reducible refine Below.ext0 ?_ _ | with_reducible refine Below.drew ?_ | with_reducible refine below_drewN ?_ _ | (with_reducible refine Below.setCell (hp := ?hp) ?_ _; case hp => (first | (simp; done) | (simp; omega)))))⟩
          · have hz200' : (zs.length : Int) ≤ 200 := by omega
            go_upto_region 10 with (go_at_call 29; refine (Hnums.out _).mono ?_; rintro e w' ⟨rfl, hb⟩; obtain ⟨u, rfl⟩ := ext_of hb; clear hb)
            have HP := Lib.hid (Bk.new wr #[.int .i64 kd, .string nm, .slice AZ zs.length zc, .int .i64 num, .int .i64 rn, .int .i64 rd, .int .i64 sn, .int .i64 sd] 34)
            refine forget (fun X => Below wr.heap.size wr X ∧ Bk X wr.heap.size #[.int .i64 kd, .string nm, .slice AZ zs.length zc, .int .i64 num, .int .i64 rn, .int .i64 rd, .int .i64 sn, .int .i64 sd] 34 ∧ Elems tZn X B AZ zs) ⟨by (repeat (first | with_reducible exact Below.refl _ _ | with_reducible assumption | with_reducible refine Below.alloc0 ?_ _ | with_reducible refine Below.ext0 ?_ _ | with_reducible refine Below.drew ?_ | with_reducible refine below_drewN ?_ _ | (with_reducible refine Below.setCell (hp := ?hp) ?_ _; case hp => (first | (simp; done) | (simp; omega))))), HP.out.ext _, HZ.out.ext (by simp; omega) _⟩ ?_
            rintro X ⟨hX, bp, hZX⟩
            have hXs := hX.size
            have p1 : X.cell? ⟨wr.heap.size, 1, none⟩ = some (.string nm) := bp.cell 1
            have p2 : X.cell? ⟨wr.heap.size, 2, none⟩ = some (.slice AZ zs.length zc) := bp.cell 2
            have lp := bp.lt
            have c0X : X.cell? ⟨w.heap.size, 0, none⟩ = some (.slice (some ⟨b, off, none⟩) rs.length cap) := (HX.out.2.2.1.below hX).cell 0
            have l0X : w.heap.size < X.heap.size := by omega
            have lgX : g < X.heap.size := by omega
            have bX : b < X.heap.size := by omega
            have HLX := Lib.hid (HX.out.2.2.2.below hX)
            have HEX := Lib.hid (HEk.out.keep (hX.mono (by omega)) (Nat.le_refl _))
            have HXX := Lib.hid (And.intro (Below.trans0 hfin.out hX) (And.intro (Below.trans0 HX.out.2.1 hX) hZX))
            clear hX bp hZX HZ HP d0 d1 d2 d3 d4 d5 d6 d7 c0 l0 hlg bw Hnums HEk
            generalize wr.heap.size = pb at *
            go_wp2_with fail
            go_loopw [6] (fun i wz => ∃ (j q : Nat), j ≤ zs.length ∧ i = .int .i64 j ∧ (zs.take j).any (fun z => !okZ z) = false ∧ wz = X.drewN q) (fun i _ => zs.length - (intOf i).toNat)
            case atStart => exact ⟨0, 0, by omega, rfl, rfl, rfl⟩
            case round =>
              obtain ⟨j, q, hj, rfl, hany, rfl⟩ := hrel
              have Hany := Lib.hid hany
              clear hany
              by_cases hjl : j < zs.length
              · obtain ⟨zb, zo, z, rfl, hzb, Hj, hz, Hz⟩ := pick_zone HXX.out.2.2 hjl
                have zw : zb < X.heap.size := by omega
                have Hs := Lib.hid (any_take (fun z => !okZ z) Hj.out)
                have HZL := Lib.hid hz
                have hjl' : (j : Int) < (zs.length : Int) := by omega
                obtain ⟨oz, hoz⟩ : ∃ v, okZ z = v := ⟨_, rfl⟩
                have Hoz := Lib.hid hoz
                have Hzbad : Hid (okZ z = false → r = false) := Lib.hid fun h => Hbad.out (by
                  unfold badAt badR
                  have : (zs.any fun z => !okZ z) = true := List.any_eq_true.2 ⟨z, List.mem_of_getElem? Hj.out, by rw [h]; rfl⟩
                  dsimp only
                  rw [this]; simp)
                clear hz hoz
                go_wp2_with fail
                go_loopw [7] (fun i wz => ∃ (a q2 : Nat), a ≤ 10 ∧ i = .int .i64 a ∧ (∀ t, t < a → okR (atR z t) (atR limZ t) = true) ∧ wz = X.drewN q2) (fun i _ => 10 - (intOf i).toNat)
                case atStart => exact ⟨0, q, by omega, rfl, fun t ht => by omega, rfl⟩
                case round =>
                  obtain ⟨a, q2, ha, rfl, hall, rfl⟩ := hrel
                  have Hall := Lib.hid hall
                  clear hall
                  by_cases ha10 : a < 10
                  · have ha10' : (a : Int) < 10 := by omega
                    have z1 : X.cell? ⟨zb, zo + j * 20 + a * 2, none⟩ = some (.int .i64 (atR z a).1) := Hz.out _ _ (znV_at (by rw [HZL.out]; omega)).1
                    have z2 : X.cell? ⟨zb, zo + j * 20 + a * 2 + 1, none⟩ = some (.int .i64 (atR z a).2) := by rw [Nat.add_assoc]; exact Hz.out _ _ (znV_at (by rw [HZL.out]; omega)).2
                    have m1 : X.cell? ⟨g, a * 2, none⟩ = some (.int .i64 (atR limZ a).1) := by rw [HLX.out.cell]; exact (znV_at (z := limZ) (show a < 10 by omega)).1
                    have m2 : X.cell? ⟨g, a * 2 + 1, none⟩ = some (.int .i64 (atR limZ a).2) := by rw [HLX.out.cell]; exact (znV_at (z := limZ) (show a < 10 by omega)).2
                    have HN : Hid (okR (atR z a) (atR limZ a) = true → ∀ t, t < a + 1 → okR (atR z t) (atR limZ t) = true) := Lib.hid fun h t ht => by
                      by_cases e : t = a
                      · subst e; exact h
                      · exact Hall.out t (by omega)
                    have HBd : Hid (okR (atR z a) (atR limZ a) = false → r = false) := Lib.hid fun h => Hzbad.out (okZ_bad ha10 h)
                    have hok : okR (atR z a) (atR limZ a) = (decide ((atR z a).1 ≤ (atR z a).2) && decide ((atR limZ a).1 ≤ (atR z a).1) && decide ((atR z a).2 ≤ (atR limZ a).2)) := rfl
                    rw [hok] at HBd HN
                    clear hok
                    generalize (atR z a).1 = lo at *
                    generalize (atR z a).2 = hi at *
                    generalize (atR limZ a).1 = ll at *
                    generalize (atR limZ a).2 = lh at *
                    have hcs : (decide (hi < lo) = true) ∨ (decide (hi < lo) = false ∧ decide (lo < ll) = true) ∨ (decide (hi < lo) = false ∧ decide (lo < ll) = false ∧ decide (lh < hi) = true) ∨ (decide (hi < lo) = false ∧ decide (lo < ll) = false ∧ decide (lh < hi) = false) := by
                      by_cases h1 : hi < lo <;> by_cases h2 : lo < ll <;> by_cases h3 : lh < hi <;> simp [h1, h2, h3]
                    rcases hcs with h1 | ⟨h1, h2⟩ | ⟨h1, h2, h3⟩ | ⟨h1, h2, h3⟩
                    · obtain rfl : r = false := HBd.out (by simp at h1 ⊢; omega)
                      go_wp2_with fail
                      go_quiet (fail)
                      go_wp2_with fail
                      go_ret
                      exact ⟨rfl, below_drewN (below_drewN HXX.out.1 _) _⟩
                    · obtain rfl : r = false := HBd.out (by simp at h1 h2 ⊢; omega)
                      go_wp2_with fail
                      go_quiet (fail)
                      go_wp2_with fail
                      go_ret
                      exact ⟨rfl, below_drewN (below_drewN HXX.out.1 _) _⟩
                    · obtain rfl : r = false := HBd.out (by simp at h1 h2 h3 ⊢; omega)
                      go_wp2_with fail
                      go_quiet (fail)
                      go_wp2_with fail
                      go_ret
                      exact ⟨rfl, below_drewN (below_drewN HXX.out.1 _) _⟩
                    · have hn := HN.out (by simp at h1 h2 h3 ⊢; omega)
                      have Hn := Lib.hid hn
                      clear hn
                      go_wp2_with fail
                      go_quiet (fail)
                      go_wp2_with fail
                      go_roundw
                      case rel => exact ⟨a + 1, _, by omega, by go_num, Hn.out, rfl⟩
                      case measure => simp [intOf]; omega
                  · obtain rfl : a = 10 := by omega
                    have Hok : Hid (okZ z = true) := Lib.hid (okZ_all Hall.out)
                    go_wp2_with fail
                    go_roundw
                    case rel => exact ⟨j + 1, q2, by omega, by go_num, by rw [Hs.out, Hany.out, Hok.out]; rfl, rfl⟩
                    case measure => simp [intOf]; omega
              · obtain rfl : j = zs.length := by omega
                have Hzs : Hid ((zs.any fun z => !okZ z) = false) := Lib.hid (by have := Hany.out; rwa [List.take_length] at this)
                have HbadR : Hid (badR (kd, nm, zs, num, (rn, rd), (sn, sd)) = false) := Lib.hid (by unfold badR; dsimp only; rw [Hnb.out, Hzs.out, decide_eq_false hz200]; rfl)
                go_wp2_with fail
                go_loopw [8] (fun i wz => ∃ (t q2 : Nat), t ≤ k ∧ i = .int .i64 t ∧ hasN (rs.take t) nm = false ∧ wz = X.drewN q2) (fun i _ => k - (intOf i).toNat)
                case atStart => exact ⟨0, q, by omega, rfl, rfl, rfl⟩
                case round =>
                  obtain ⟨t, q2, ht, rfl, hno, rfl⟩ := hrel
                  have Hno := Lib.hid hno
                  clear hno
                  by_cases htk : t < k
                  · have htl : t < rs.length := by omega
                    obtain ⟨b', off', kd', nm', AZ', zs', zc', num', rn', rd', sn', sd', hA', hb', Hk', e0, e1, e2, e3, e4, e5, e6, e7, _, _, _, _, _, _⟩ := pick_rule HEX.out htl
                    simp only [Option.some.injEq, Addr.mk.injEq, and_true] at hA'
                    obtain ⟨rfl, rfl⟩ := hA'
                    have htk' : (t : Int) < (k : Int) := by omega
                    have htl' : (t : Int) < (rs.length : Int) := by omega
                    have Hs := Lib.hid (hasN_take (c := nm) Hk'.out)
                    by_cases heq : nm' = nm
                    · subst heq
                      obtain rfl : r = false := Hbad.out (by unfold badAt; rw [show ((kd, nm', zs, num, (rn, rd), (sn, sd)) : Rl).2.1 = nm' from rfl, hasN_hit Hk'.out htk]; rfl)
                      go_wp2_with fail
                      go_quiet (fail)
                      go_wp2_with fail
                      go_ret
                      exact ⟨rfl, below_drewN (below_drewN HXX.out.1 _) _⟩
                    · have hne : (nm'.toList == nm.toList) = false := by
                        rw [beq_eq_false_iff_ne, ByteArray.toList_eq, ByteArray.toList_eq]
                        exact fun h => heq (Go.WideShapes.bytes_inj h)
                      have Hnew : Hid (hasN (rs.take (t + 1)) nm = false) := Lib.hid (by rw [Hs.out, Hno.out]; simp [heq])
                      go_wp2_with fail
                      go_quiet (fail)
                      go_wp2_with fail
                      go_roundw
                      case rel => exact ⟨t + 1, _, by omega, by go_num, Hnew.out, rfl⟩
                      case measure => simp [intOf]; omega
                  · obtain rfl : t = k := by omega
                    have Hnext : Hid (goodTo rs (t + 1)) := Lib.hid (Hstep.out (by unfold badAt; rw [show ((kd, nm, zs, num, (rn, rd), (sn, sd)) : Rl).2.1 = nm from rfl, Hno.out, HbadR.out]; rfl))
                    go_wp2_with fail
                    go_roundw
                    case rel => exact ⟨t + 1, by omega, by go_num, Hnext.out, below_drewN HXX.out.2.1 _⟩
                    case measure => simp [intOf]; omega
      · obtain rfl : k = rs.length := by omega
        obtain rfl : r = true := by rw [← hgood.out]; exact goodB_all HX.out.1
        go_wp2_with fail
        go_ret
        exact ⟨rfl, hfin.out⟩
  · have h200' : 200 < (rs.length : Int) := by omega
    obtain rfl : r = false := by rw [← Hr.out]; unfold validP; rw [decide_eq_false h200]; rfl
    go_enter Try.func15, Try.ntmps15
    go_wp2_with fail
    go_ret
    exact ⟨rfl, below_self _ _⟩
end Go.Proofs.Ytmklcfmdcfbpeaa
