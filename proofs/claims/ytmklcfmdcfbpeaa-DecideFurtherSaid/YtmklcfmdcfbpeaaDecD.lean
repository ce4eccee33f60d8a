/- Layer 13 (decide): Valid, and the reference's numbers. -/
import Derived.Test.YtmklcfmdcfbpeaaDecC
namespace Go.Proofs.Ytmklcfmdcfbpeaa
open Go.RowKit
set_option linter.unusedVariables false
set_option linter.unusedSimpArgs false
attribute [local go_sem] ext_cell ext_frozen lt_ext ext_drew

theorem pick_rule {w : World} {B : Nat} {A : Option Addr} {rs : List Rl} (h : Elems tRl w B A rs) {k : Nat} (hk : k < rs.length) :
    ∃ b off kd nm AZ zs zc num rn rd sn sd, A = some ⟨b, off, none⟩ ∧ b < B ∧ Hid (rs[k]? = some (kd, nm, zs, num, (rn, rd), (sn, sd))) ∧
      w.cell? ⟨b, off + k * 8, none⟩ = some (.int .i64 kd) ∧ w.cell? ⟨b, off + k * 8 + 1, none⟩ = some (.string nm) ∧ w.cell? ⟨b, off + k * 8 + 2, none⟩ = some (.slice AZ zs.length zc) ∧ w.cell? ⟨b, off + k * 8 + 3, none⟩ = some (.int .i64 num) ∧
      w.cell? ⟨b, off + k * 8 + 4, none⟩ = some (.int .i64 rn) ∧ w.cell? ⟨b, off + k * 8 + 5, none⟩ = some (.int .i64 rd) ∧ w.cell? ⟨b, off + k * 8 + 6, none⟩ = some (.int .i64 sn) ∧ w.cell? ⟨b, off + k * 8 + 7, none⟩ = some (.int .i64 sd) ∧
      nm.size ≤ maxLen ∧ zs.length ≤ zc ∧ zc ≤ maxLen ∧ Elems tZn w B AZ zs ∧ fits kd ∧ fits num := by
  obtain ⟨b, off, ⟨kd, nm, zs, num, ⟨rn, rd⟩, ⟨sn, sd⟩⟩, cs, hA, hb, _, hx, _, ⟨c1, r1, rfl, ⟨rfl, h1⟩, ⟨c2, r2, rfl, ⟨rfl, h2⟩, ⟨c3, r3, rfl, ⟨AZ, zc, rfl, h3, h4, h5⟩, ⟨c4, r4, rfl, ⟨rfl, h6⟩, ⟨c5, r5, rfl, ⟨a1, b1, rfl, ⟨rfl, _⟩, ⟨rfl, _⟩⟩, ⟨a2, b2, rfl, ⟨rfl, _⟩, ⟨rfl, _⟩⟩⟩⟩⟩⟩⟩, hc⟩ := h.pick hk
  exact ⟨b, off, kd, nm, AZ, zs, zc, num, rn, rd, sn, sd, hA, hb, hx, hc 0 _ rfl, hc 1 _ rfl, hc 2 _ rfl, hc 3 _ rfl, hc 4 _ rfl, hc 5 _ rfl, hc 6 _ rfl, hc 7 _ rfl, h2, h3, h4, h5, h1, h6⟩

def RulesSeen (w : World) (mb : Nat) (rs : List Rl) (e : Ending) (w' : World) : Prop :=
  ∃ i : Int, e = .returned (.int .i64 i) ∧ Only (fun g => g = mb) w w' ∧ (goodB rs = true → i = -1) ∧ (goodB rs = false → 0 ≤ i)

set_option maxHeartbeats 1000000 in
theorem index_rules (A : Option Addr) (rs : List Rl) (cap : Nat) (w : World) (B sb mb : Nat) (h : Elems tRl w B A rs) (hB : B ≤ w.heap.size) (hl : rs.length ≤ 200) (hs : Bk w sb #[.map (some mb)] 52)
    (hm : MapB litS Try.prog 9 4 w mb 0 (fun _ => none)) (hmB : B ≤ mb) :
    Calls Try.prog 42 #[.slice A rs.length cap, .func (.func 23) #[] #[.pointer (some ⟨sb, 0, none⟩)]] w (RulesSeen w mb rs) := by
  have hsm := hm.ne hs
  have HQ := Lib.hid (And.intro hs hm)
  have HH := Lib.hid h
  have hl' : (rs.length : Int) ≤ 200 := by omega
  clear hs hm h
  go_enter Try.func42, Try.ntmps42
  go_wp2_with fail
  go_loopw [8] (fun i wr => ∃ (k m : Nat), k ≤ rs.length ∧ i = .int .i64 k ∧ goodTo rs k ∧ Bk wr sb #[.map (some mb)] 52 ∧ MapB litS Try.prog 9 4 wr mb m (seenN (rs.take k)) ∧ m ≤ k ∧ Only (fun g => g = mb) w wr) (fun i _ => rs.length - (intOf i).toNat)
  case atStart => exact ⟨0, 0, by omega, rfl, fun j hj => by omega, HQ.out.1, HQ.out.2, Nat.le_refl _, Only.refl _ _⟩
  case round =>
    obtain ⟨k, m, hk, rfl, hall, hbs, hmp, hmk, hon⟩ := hrel
    have hE := HH.out.keep (hon.to_below (B := B) (fun g hg => by omega) hB) (Nat.le_refl _)
    have HX := Lib.hid (And.intro hall (And.intro hbs (And.intro hmp hon)))
    have hBr : B ≤ wr.heap.size := Nat.le_trans hB hon.size
    clear hall hbs hmp hon
    by_cases hlt : k < rs.length
    · obtain ⟨b, off, kd, nm, AZ, zs, zc, num, rn, rd, sn, sd, rfl, hb, Hk, c0, c1, c2, c3, c4, c5, c6, c7, f1, f2, f3, hZ, _, _⟩ := pick_rule hE hlt
      have bw : b < wr.heap.size := by omega
      have F1 := Lib.hid f1
      have HZ := Lib.hid hZ
      have hzl : zs.length ≤ 9223372036854775807 := by unfold maxLen at f3; omega
      clear hE f1 hZ
      go_wp2_with fail
      refine (rule_bad kd nm AZ zs zc num rn rd sn sd wr B sb mb m _ HX.out.2.1 HX.out.2.2.1 (by omega) F1.out HZ.out hBr hmB hzl).mono ?_
      rintro e w2 ⟨rfl, m', hmp, hm', hon⟩
      rw [seenN_get]
      have hmp2 : MapB litS Try.prog 9 4 w2 mb m' (seenN (rs.take (k + 1))) := by rw [← seenN_put Hk.out]; exact hmp
      have HY := Lib.hid (And.intro hmp2 (And.intro (HX.out.2.1.only hon (by omega)) hon))
      clear hmp hmp2 hon
      cases hL : badAt rs k (kd, nm, zs, num, (rn, rd), (sn, sd)) with
      | false =>
        have HL := Lib.hid hL
        have hL2 : (hasN (rs.take k) nm || badR (kd, nm, zs, num, (rn, rd), (sn, sd))) = false := hL
        rw [hL2]
        clear hL hL2
        go_wp2_with fail
        go_roundw
        case rel => exact ⟨k + 1, m', by omega, by go_num, goodTo_step HX.out.1 Hk.out HL.out, HY.out.2.1, HY.out.1, by omega, HX.out.2.2.2.trans HY.out.2.2⟩
        case measure => simp [intOf]; omega
      | true =>
        have HL := Lib.hid hL
        have hL2 : (hasN (rs.take k) nm || badR (kd, nm, zs, num, (rn, rd), (sn, sd))) = true := hL
        rw [hL2]
        clear hL hL2
        go_wp2_with fail
        go_ret
        exact ⟨k, rfl, HX.out.2.2.2.trans HY.out.2.2, fun h => absurd ((goodB_bad Hk.out HL.out).symm.trans h) (by decide), fun _ => by omega⟩
    · obtain rfl : k = rs.length := by omega
      have Hall := Lib.hid (goodB_all HX.out.1)
      go_wp2_with fail
      go_ret
      exact ⟨-1, rfl, HX.out.2.2.2, fun _ => rfl, fun h => absurd (Hall.out.symm.trans h) (by decide)⟩

theorem contains_rules (A : Option Addr) (rs : List Rl) (cap n : Nat) (w : World) (B sb mb : Nat) (h : Elems tRl w B A rs) (hB : B ≤ w.heap.size) (hn : rs.length = n) (hl : n ≤ 200) (hs : Bk w sb #[.map (some mb)] 52)
    (hm : MapB litS Try.prog 9 4 w mb 0 (fun _ => none)) (hmB : B ≤ mb) :
    Calls Try.prog 27 #[.slice A n cap, .func (.func 23) #[] #[.pointer (some ⟨sb, 0, none⟩)]] w fun e w' => e = .returned (.bool (!goodB rs)) ∧ Only (fun g => g = mb) w w' := by
  subst hn
  have H := Lib.hid (index_rules A rs cap w B sb mb h hB hl hs hm hmB)
  obtain ⟨r, hr⟩ : ∃ r, goodB rs = r := ⟨_, rfl⟩
  have Hr := Lib.hid hr
  rw [hr]
  clear h hs hm hr
  go_enter Try.func27, Try.ntmps27
  go_wp2_with fail
  refine H.out.mono ?_
  rintro e w' ⟨i, rfl, hon, h1, h2⟩
  have HX := Lib.hid (And.intro hon (And.intro h1 h2))
  clear hon h1 h2
  cases r with
  | true =>
    obtain rfl := HX.out.2.1 Hr.out
    go_wp2_with fail
    go_ret
    exact ⟨rfl, HX.out.1⟩
  | false =>
    have hi := HX.out.2.2 Hr.out
    go_wp2_with fail
    go_ret
    exact ⟨rfl, HX.out.1⟩

set_option maxHeartbeats 1000000 in
theorem valid_any (A : Option Addr) (rs : List Rl) (cap n : Nat) (w : World) (B : Nat) (h : Elems tRl w B A rs) (hB : B ≤ w.heap.size) (hn : rs.length = n) (hl : n ≤ 9223372036854775807) :
    Calls Try.prog 14 #[.agg #[.slice A n cap]] w fun e w' => e = .returned (.bool (validP rs)) ∧ Below w.heap.size w w' := by
  obtain ⟨r, hr⟩ : ∃ r, goodB rs = r := ⟨_, rfl⟩
  have hv : validP rs = (decide (n ≤ 200) && r) := by unfold validP; rw [hr, hn]
  rw [hv]
  have Hr := Lib.hid hr
  have HH := Lib.hid h
  have Hn := Lib.hid hn
  have hmm := @run_makeMap Try.prog
  clear hr hv h hn
  go_enter Try.func14, Try.ntmps14
  go_upto_region 2 with (fail)
  refine forget (fun W => Below w.heap.size w W ∧ Bk W w.heap.size #[.slice A n cap] 24 ∧ MapB litS Try.prog 9 4 W (w.heap.size + 1) 0 (fun _ => none) ∧ Bk W (w.heap.size + 2) #[.map (some (w.heap.size + 1))] 52) ⟨?_, ?_, ?_, ?_⟩ ?_
  · (repeat (first | with_reducible exact Below.refl _ _ | with_reducible assumption | with_reducible refine Below.alloc0 ?_ _ | with_reducible refine Below.ext0 ?_ _ | with_reducible refine Below.drew ?_ | with_reducible refine below_drewN ?_ _ | (with_reducible refine Below.setCell (hp := ?hp) ?_ _; case hp => (first | (simp; done) | (simp; omega)))))
  · exact ((Bk.new w _ _).alloc _).alloc _
  · have h0 := MapB.new litS Try.prog 9 4 (w.alloc (.cells #[.slice A n cap] 24))
    have e0 : (w.alloc (.cells #[.slice A n cap] 24)).heap.size = w.heap.size + 1 := by simp
    rw [e0] at h0
    exact h0.below (below_self _ _)
  · exact bk_new_at _ _ _ _ (by simp)
  rintro W ⟨hw, b0, mp, b2⟩
  have c0 : W.cell? ⟨w.heap.size, 0, none⟩ = some (.slice A n cap) := b0.cell 0
  have l0 := b0.lt
  have HW := Lib.hid (And.intro hw (And.intro mp b2))
  have HE := Lib.hid (HH.out.keep (hw.mono hB) (Nat.le_refl _))
  have hBW : B ≤ W.heap.size := Nat.le_trans hB hw.size
  clear hw b0 mp b2 HH hmm
  by_cases h200 : n ≤ 200
  · have h200' : (n : Int) ≤ 200 := by omega
    go_wp2_with fail
    refine (contains_rules A rs cap n W B (w.heap.size + 2) (w.heap.size + 1) HE.out hBW Hn.out h200 HW.out.2.2 HW.out.2.1 (by omega)).mono ?_
    rintro e w2 ⟨rfl, hon⟩
    rw [Hr.out]
    have HO := Lib.hid hon
    clear hon
    cases r
    all_goals
      go_wp2_with fail
      go_ret
      exact ⟨ret_bool (by simp [h200]), HW.out.1.trans (HO.out.to_below (fun g hg => by omega) (by omega))⟩
  · have h200' : 200 < (n : Int) := by omega
    go_wp2_with fail
    go_ret
    exact ⟨ret_bool (by simp; try omega), HW.out.1⟩

set_option maxHeartbeats 2000000 in
theorem rnumbers_any (kd : Int) (nm : ByteArray) (A : Option Addr) (n cap : Nat) (num rn rd sn sd : Int) (w : World) :
    Calls Try.prog 29 #[.agg #[.int .i64 kd, .string nm, .slice A n cap, .int .i64 num, .int .i64 rn, .int .i64 rd, .int .i64 sn, .int .i64 sd]] w fun e w' => e = .returned (.bool (numsB kd num rn rd sn sd)) ∧ Below w.heap.size w w' := by
  obtain ⟨m1, hm1⟩ : ∃ v, mostB rn rd 1 = v := ⟨_, rfl⟩
  obtain ⟨m2, hm2⟩ : ∃ v, mostB sn sd 1 = v := ⟨_, rfl⟩
  obtain ⟨m3, hm3⟩ : ∃ v, mostB rn rd 10 = v := ⟨_, rfl⟩
  obtain ⟨R, hR⟩ : ∃ v, numsB kd num rn rd sn sd = v := ⟨_, rfl⟩
  rw [hR]
  have hR2 := hR.symm
  unfold numsB at hR2
  rw [hm1, hm2, hm3] at hR2
  have H1 := Lib.hid hm1
  have H2 := Lib.hid hm2
  have H3 := Lib.hid hm3
  have HR := Lib.hid hR2
  clear hm1 hm2 hm3 hR hR2
  by_cases k1 : kd = 1
  · subst k1
    have hR9 : R = (decide (0 ≤ num) && decide (num ≤ 100)) := HR.out
    have HR9 := Lib.hid hR9
    clear HR hR9
    go_enter Try.func29, Try.ntmps29
    go_wp2_with fail
    all_goals go_ret
    all_goals exact ⟨ret_bool (by rw [HR9.out, Bool.eq_iff_iff]; simp; omega), below_self _ _⟩
  by_cases k3 : kd = 3
  · subst k3
    have hR9 : R = (decide (0 ≤ num) && decide (num ≤ 10000000) && m1 && m2) := HR.out
    have HR9 := Lib.hid hR9
    clear HR hR9
    by_cases hn : 0 ≤ num ∧ num ≤ 10000000
    · obtain ⟨n1, n2⟩ := hn
      cases m1
      · go_enter Try.func29, Try.ntmps29
        go_wp2_with (go_at_call 43; refine (rmost_is _ _ _ 1 _ (by omega) H1).mono ?_; rintro e w' ⟨rfl, hb⟩; (first | (obtain ⟨u, rfl⟩ := ext_more hb; clear hb) | (obtain ⟨u, rfl⟩ := ext_more_alloc hb; clear hb) | (obtain ⟨u, rfl⟩ := ext_of hb; clear hb)))
        go_ret
        exact ⟨ret_bool (by rw [HR9.out]; simp), by (repeat (first | with_reducible exact Below.refl _ _ | with_reducible assumption | with_reducible refine Below.alloc0 ?_ _ | with_reducible refine Below.ext0 ?_ _ | with_reducible refine Below.drew ?_ | with_reducible refine below_drewN ?_ _ | (with_reducible refine Below.setCell (hp := ?hp) ?_ _; case hp => (first | (simp; done) | (simp; omega)))))⟩
      · go_enter Try.func29, Try.ntmps29
        go_wp2_with fail
        refine (rmost_is _ _ _ 1 _ (by omega) H1).mono ?_
        rintro e w' ⟨rfl, hb⟩
        (first | (obtain ⟨u, rfl⟩ := ext_more hb; clear hb) | (obtain ⟨u, rfl⟩ := ext_more_alloc hb; clear hb) | (obtain ⟨u, rfl⟩ := ext_of hb; clear hb))
        go_wp2_with fail
        refine (rmost_is _ _ _ 1 _ (by omega) H2).mono ?_
        rintro e w' ⟨rfl, hb⟩
        (first | (obtain ⟨u, rfl⟩ := ext_more hb; clear hb) | (obtain ⟨u, rfl⟩ := ext_more_alloc hb; clear hb) | (obtain ⟨u, rfl⟩ := ext_of hb; clear hb))
        go_wp2_with fail
        go_ret
        exact ⟨ret_bool (by rw [HR9.out]; simp; try omega), by (repeat (first | with_reducible exact Below.refl _ _ | with_reducible assumption | with_reducible refine Below.alloc0 ?_ _ | with_reducible refine Below.ext0 ?_ _ | with_reducible refine Below.drew ?_ | with_reducible refine below_drewN ?_ _ | (with_reducible refine Below.setCell (hp := ?hp) ?_ _; case hp => (first | (simp; done) | (simp; omega)))))⟩
    · have hno : num < 0 ∨ (0 ≤ num ∧ 10000000 < num) := by omega
      have hf : R = false := by
        rw [HR9.out]
        rcases hno with h | ⟨_, h⟩
        · rw [decide_eq_false (show ¬ 0 ≤ num by omega)]; simp
        · rw [decide_eq_false (show ¬ num ≤ 10000000 by omega)]; simp
      subst hf
      clear hn HR9
      rcases hno with hno | ⟨hno, hno2⟩
      all_goals
        go_enter Try.func29, Try.ntmps29
        go_wp2_with fail
        go_ret
        exact ⟨rfl, below_self _ _⟩
  by_cases k4 : kd = 4
  · subst k4
    have hR9 : R = (m3 && m2) := HR.out
    subst hR9
    cases m3
    · go_enter Try.func29, Try.ntmps29
      go_wp2_with (go_at_call 43; refine (rmost_is _ _ _ 10 _ (by omega) H3).mono ?_; rintro e w' ⟨rfl, hb⟩; (first | (obtain ⟨u, rfl⟩ := ext_more hb; clear hb) | (obtain ⟨u, rfl⟩ := ext_more_alloc hb; clear hb) | (obtain ⟨u, rfl⟩ := ext_of hb; clear hb)))
      go_ret
      exact ⟨rfl, by (repeat (first | with_reducible exact Below.refl _ _ | with_reducible assumption | with_reducible refine Below.alloc0 ?_ _ | with_reducible refine Below.ext0 ?_ _ | with_reducible refine Below.drew ?_ | with_reducible refine below_drewN ?_ _ | (with_reducible refine Below.setCell (hp := ?hp) ?_ _; case hp => (first | (simp; done) | (simp; omega)))))⟩
    · go_enter Try.func29, Try.ntmps29
      go_wp2_with fail
      refine (rmost_is _ _ _ 10 _ (by omega) H3).mono ?_
      rintro e w' ⟨rfl, hb⟩
      (first | (obtain ⟨u, rfl⟩ := ext_more hb; clear hb) | (obtain ⟨u, rfl⟩ := ext_more_alloc hb; clear hb) | (obtain ⟨u, rfl⟩ := ext_of hb; clear hb))
      go_wp2_with fail
      refine (rmost_is _ _ _ 1 _ (by omega) H2).mono ?_
      rintro e w' ⟨rfl, hb⟩
      (first | (obtain ⟨u, rfl⟩ := ext_more hb; clear hb) | (obtain ⟨u, rfl⟩ := ext_more_alloc hb; clear hb) | (obtain ⟨u, rfl⟩ := ext_of hb; clear hb))
      go_wp2_with fail
      go_ret
      exact ⟨ret_bool (by simp), by (repeat (first | with_reducible exact Below.refl _ _ | with_reducible assumption | with_reducible refine Below.alloc0 ?_ _ | with_reducible refine Below.ext0 ?_ _ | with_reducible refine Below.drew ?_ | with_reducible refine below_drewN ?_ _ | (with_reducible refine Below.setCell (hp := ?hp) ?_ _; case hp => (first | (simp; done) | (simp; omega)))))⟩
  by_cases k5 : kd = 5
  · subst k5
    obtain rfl : R = m1 := HR.out
    go_enter Try.func29, Try.ntmps29
    go_wp2_with (go_at_call 43; refine (rmost_is _ _ _ 1 _ (by omega) H1).mono ?_; rintro e w' ⟨rfl, hb⟩; (first | (obtain ⟨u, rfl⟩ := ext_more hb; clear hb) | (obtain ⟨u, rfl⟩ := ext_more_alloc hb; clear hb) | (obtain ⟨u, rfl⟩ := ext_of hb; clear hb)))
    go_ret
    exact ⟨rfl, by (repeat (first | with_reducible exact Below.refl _ _ | with_reducible assumption | with_reducible refine Below.alloc0 ?_ _ | with_reducible refine Below.ext0 ?_ _ | with_reducible refine Below.drew ?_ | with_reducible refine below_drewN ?_ _ | (with_reducible refine Below.setCell (hp := ?hp) ?_ _; case hp => (first | (simp; done) | (simp; omega)))))⟩
  have hR9 : R = (decide (kd = 2) || decide (kd = 6) || decide (kd = 7)) := by rw [HR.out, if_neg k1, if_neg k3, if_neg k4, if_neg k5]
  subst hR9
  clear HR
  by_cases k2 : kd = 2
  · subst k2
    go_enter Try.func29, Try.ntmps29
    go_wp2_with fail
    go_ret
    exact ⟨rfl, below_self _ _⟩
  by_cases k6 : kd = 6
  · subst k6
    go_enter Try.func29, Try.ntmps29
    go_wp2_with fail
    go_ret
    exact ⟨rfl, below_self _ _⟩
  by_cases k7 : kd = 7
  · subst k7
    go_enter Try.func29, Try.ntmps29
    go_wp2_with fail
    go_ret
    exact ⟨rfl, below_self _ _⟩
  go_enter Try.func29, Try.ntmps29
  go_wp2_with fail
  go_ret
  exact ⟨ret_bool (by simp [k2, k6, k7]), below_self _ _⟩

end Go.Proofs.Ytmklcfmdcfbpeaa
