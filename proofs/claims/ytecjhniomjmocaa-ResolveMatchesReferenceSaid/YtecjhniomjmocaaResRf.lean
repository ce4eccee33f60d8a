/- Layer 12 (resolve): the reference's limits, and whether the numbers of an item are in range. -/
import Derived.Test.YtecjhniomjmocaaResRe
namespace Go.Proofs.Ytecjhniomjmocaa
open Go.RowKit Go.ChangeAt
set_option linter.unusedVariables false
set_option linter.unusedSimpArgs false
attribute [local go_sem] ext_cell ext_frozen lt_ext ext_drew

def hisL : List Int := [1000000000, 150, 1, 19, 7, 319, 3, 3, 12, 100]
def limK (k : Nat) : Zn := (List.range 10).map fun i => (0, if i < k then atF hisL i else 0)
theorem limK_len (k : Nat) : (limK k).length = 10 := by simp [limK]
theorem limK_step : ∀ k, k < 10 → (limK k).set k (0, atF hisL k) = limK (k + 1) := by decide +kernel
theorem limK_lo : ∀ k, k < 10 → (atR (limK k) k).1 = 0 := by decide +kernel
theorem znV_hi {z : Zn} {k : Nat} (hk : k < z.length) (v : Int) : (znV z).setIfInBounds (k * 2 + 1) (.int .i64 v) = znV (z.set k ((atR z k).1, v)) := by
  have hl : (znV z).size = z.length * 2 := by simp [znV, pairsV_len]
  have hl2 : (znV (z.set k ((atR z k).1, v))).size = z.length * 2 := by simp [znV, pairsV_len]
  apply Array.ext_getElem?
  intro j
  by_cases hj : j < z.length * 2
  · have hi : j / 2 < z.length := by omega
    have h1 := znV_at (z := z) hi
    have h2 := znV_at (z := z.set k ((atR z k).1, v)) (k := j / 2) (by simpa using hi)
    have hat : atR (z.set k ((atR z k).1, v)) (j / 2) = if k = j / 2 then ((atR z k).1, v) else atR z (j / 2) := by
      unfold atR
      rw [List.getD_eq_getElem?_getD, List.getElem?_set]
      by_cases e : k = j / 2
      · simp [e, hi]
      · simp [e]
    rw [hat] at h2
    rw [Array.getElem?_setIfInBounds]
    rcases (show j = j / 2 * 2 ∨ j = j / 2 * 2 + 1 by omega) with e9 | e9
    · rw [if_neg (by omega)]
      have a1 := h1.1
      have a2 := h2.1
      rw [← e9] at a1 a2
      rw [a1, a2]
      by_cases e : k = j / 2
      · simp [e]
      · simp [e]
    · have a1 := h1.2
      have a2 := h2.2
      rw [← e9] at a1 a2
      by_cases e : k = j / 2
      · rw [if_pos (by omega), if_pos (by omega), a2, if_pos e]
      · rw [if_neg (by omega), a1, a2, if_neg e]
  · rw [Array.getElem?_eq_none (by simp; omega), Array.getElem?_eq_none (by omega)]

set_option maxRecDepth 100000 in
set_option maxHeartbeats 1000000 in
theorem rlimits_any (w : World) : Calls Try.prog 15 #[] w fun e w' => e = .returned (.agg (znV limZ)) ∧ Below w.heap.size w w' := by
  go_enter Try.func15, Try.ntmps15
  go_upto_region 3 with (fail)
  refine forget (fun W => Below w.heap.size w W ∧ Bk W w.heap.size (znV (limK 0)) 42 ∧ Bk W (w.heap.size + 1) (znV (limK 0)) 42 ∧ Bk W (w.heap.size + 2) (fcV hisL) 3) ⟨by (repeat (first | with_reducible exact Below.refl _ _ | with_reducible assumption | with_reducible refine Below.alloc0 ?_ _ | with_reducible refine Below.ext0 ?_ _ | with_reducible refine Below.drew ?_ | with_reducible refine below_drewN ?_ _ | (with_reducible refine Below.setCell (hp := ?hp) ?_ _; case hp => (first | (simp; done) | (simp; omega))))), ?_, ?_, ?_⟩ ?_
  · exact ((Bk.new w _ _).alloc _).alloc _
  · exact (bk_new_at _ _ _ _ (by simp)).alloc _
  · exact bk_new_at _ _ _ _ (by simp)
  rintro W ⟨hw, b0, b1, b2⟩
  have HW := Lib.hid (And.intro hw (And.intro b0 (And.intro b1 b2)))
  generalize hg : w.heap.size = g at *
  have Hg := Lib.hid hg
  clear hw b0 b1 b2 hg
  go_wp2_with fail
  go_loopw [3] (fun i wr => ∃ (k : Nat), k ≤ 10 ∧ i = .int .i64 k ∧ Bk wr (g + 1) (znV (limK k)) 42 ∧ Only (fun b => b = g + 1) W wr) (fun i _ => 10 - (intOf i).toNat)
  case atStart => exact ⟨0, by omega, rfl, HW.out.2.2.1, Only.refl _ _⟩
  case round =>
    obtain ⟨k, hk, rfl, b1, hon⟩ := hrel
    have b2 := HW.out.2.2.2.only hon (by omega)
    have b0 := HW.out.2.1.only hon (by omega)
    have HX := Lib.hid (And.intro b1 (And.intro hon (And.intro b2 b0)))
    have lg := b1.lt
    have l2 := b2.lt
    have l0 := b0.lt
    clear b1 b2 b0 hon
    by_cases hlt : k < 10
    · have hk10 : (k : Int) < 10 := by omega
      have c1 : wr.cell? ⟨g + 2, k, none⟩ = some (.int .i64 (atF hisL k)) := by rw [HX.out.2.2.1.cell]; exact fcV_at (f := hisL) hlt
      have c2 : wr.cell? ⟨g + 1, k * 2 + 1, none⟩ = some (.int .i64 (atR (limK k) k).2) := by rw [HX.out.1.cell]; exact (znV_at (by rw [limK_len]; omega)).2
      have f2 := HX.out.1.free (k * 2 + 1)
      have hst : Hid (Bk (wr.setCell ⟨g + 1, k * 2 + 1, none⟩ (.int .i64 (atF hisL k))) (g + 1) (znV (limK (k + 1))) 42) := by
        have h1 := HX.out.1.set_ (k * 2 + 1) (.int .i64 (atF hisL k))
        rw [znV_hi (by rw [limK_len]; omega), limK_lo k hlt, limK_step k hlt] at h1
        exact h1
      generalize atF hisL k = hi at *
      generalize (atR (limK k) k).2 = old at *
      go_wp2_with fail
      go_roundw
      case rel => exact ⟨k + 1, by omega, by go_num, hst.out, HX.out.2.1.set_ (p := ⟨g + 1, k * 2 + 1, none⟩) (.inl rfl) _⟩
      case measure => simp [intOf]; omega
    · obtain rfl : k = 10 := by omega
      have c16 : wr.cell? ⟨g + 1, 16, none⟩ = some (.int .i64 0) := by rw [HX.out.1.cell]; rfl
      have f16 := HX.out.1.free 16
      go_upto_region 8 with (fail)
      refine forget (fun X => Bk X (g + 1) (znV limZ) 42 ∧ Bk X g (znV (limK 0)) 42 ∧ Below w.heap.size w X) ⟨HX.out.1.set_ 16 (.int .i64 1), HX.out.2.2.2.far (by simp) _, ?_⟩ ?_
      · have h1 := (HX.out.2.1.set_ (p := ⟨g + 1, 16, none⟩) (.inl rfl) (.int .i64 1)).to_below (B := g) (fun b hb => by omega) (by have := HW.out.2.1.lt; omega)
        rw [Hg.out]
        exact HW.out.1.trans h1
      rintro X ⟨b1, b0, hw⟩
      have HY := Lib.hid (And.intro b1 (And.intro b0 hw))
      clear HX HW c16 f16 lg l2 l0 b1 b0 hw
      go_wp2_with (first
        | (refine list_load_at (o := ⟨some 20, _, _, _, _, _⟩) rfl _ _ rfl (g + 1) 0 rfl (znV limZ) _ (fun j u h => by rw [Nat.zero_add, HY.out.1.cell]; exact h) Try.underlying42 rfl info_zone ?_)
        | (refine list_store_bk (o := ⟨none, .store 42 _ _, _, _, _, _⟩) rfl _ _ _ rfl g (znV limZ) rfl rfl HY.out.2.1 info_zone rfl (one_pairs limZ) ?_; intro X2 hb2 ho2))
      exact bodyPost_ret (v := .agg (znV limZ)) (results_cell_row rfl _ _ g 42 (znV limZ) (0, 0) _ rfl hb2 Try.underlying42 rfl info_zone) rfl ⟨rfl, HY.out.2.2.trans (ho2.to_below (fun b hb => by have := Hg.out; omega) (by have := HY.out.2.2.size; omega))⟩

set_option maxRecDepth 100000 in
set_option maxHeartbeats 4000000 in
theorem rratio_any (num den most : Int) (has : Bool) (w : World) (hm : most = 1 ∨ most = 10) (hn : fits num) (hd : fits den) :
    Calls Try.prog 44 #[.agg #[.int .i64 num, .int .i64 den], .bool has, .int .i64 most] w fun e w' => e = .returned (.bool (ratioP (num, den) has most)) ∧ Below w.heap.size w w' := by
  cases has
  · by_cases h0 : num = 0 ∧ den = 0
    · obtain ⟨rfl, rfl⟩ := h0
      have e : ratioP (0, 0) false most = true := by unfold ratioP; simp
      rw [e]
      go_enter Try.func44, Try.ntmps44
      go_wp2_with fail
      go_ret
      exact ⟨rfl, by (repeat (first | with_reducible exact Below.refl _ _ | with_reducible assumption | with_reducible refine Below.alloc0 ?_ _ | with_reducible refine Below.ext0 ?_ _ | with_reducible refine Below.drew ?_ | with_reducible refine below_drewN ?_ _ | (with_reducible refine Below.setCell (hp := ?hp) ?_ _; case hp => (first | (simp; done) | (simp; omega)))))⟩
    · have e : ratioP (num, den) false most = false := by
        unfold ratioP
        rw [if_neg (by decide)]
        refine decide_eq_false fun h => h0 ?_
        injection h with h1 h2
        exact ⟨h1, h2⟩
      rw [e]
      have hc : (¬ num = 0) ∨ (num = 0 ∧ ¬ den = 0) := by omega
      clear e h0
      rcases hc with q1 | ⟨rfl, q2⟩
      all_goals
        go_enter Try.func44, Try.ntmps44
        go_wp2_with fail
        go_ret
        exact ⟨rfl, by (repeat (first | with_reducible exact Below.refl _ _ | with_reducible assumption | with_reducible refine Below.alloc0 ?_ _ | with_reducible refine Below.ext0 ?_ _ | with_reducible refine Below.drew ?_ | with_reducible refine below_drewN ?_ _ | (with_reducible refine Below.setCell (hp := ?hp) ?_ _; case hp => (first | (simp; done) | (simp; omega)))))⟩
  · have e : ratioP (num, den) true most = (decide (1 ≤ den) && decide (den ≤ 1000000) && decide (0 ≤ num) && decide (num ≤ most * den) && decide (num ≤ 1000000)) := rfl
    rw [e]
    clear e
    unfold fits at hn hd
    obtain ⟨a1, a2⟩ := hn
    obtain ⟨b1, b2⟩ := hd
    by_cases q1 : 1 ≤ den
    · by_cases q2 : den ≤ 1000000
      · by_cases q3 : 0 ≤ num
        · obtain ⟨p, hp⟩ : ∃ p, most * den = p := ⟨_, rfl⟩
          have hp2 : 0 ≤ p ∧ p ≤ 10000000 := by rcases hm with rfl | rfl <;> omega
          obtain ⟨p1, p2⟩ := hp2
          have Hp := Lib.hid hp
          rw [hp]
          by_cases q4 : num ≤ p
          · by_cases q5 : num ≤ 1000000
            · rw [decide_eq_true q1, decide_eq_true q2, decide_eq_true q3, decide_eq_true q4, decide_eq_true q5]
              go_enter Try.func44, Try.ntmps44
              go_wp2_with fail
              go_ret
              exact ⟨rfl, by (repeat (first | with_reducible exact Below.refl _ _ | with_reducible assumption | with_reducible refine Below.alloc0 ?_ _ | with_reducible refine Below.ext0 ?_ _ | with_reducible refine Below.drew ?_ | with_reducible refine below_drewN ?_ _ | (with_reducible refine Below.setCell (hp := ?hp) ?_ _; case hp => (first | (simp; done) | (simp; omega)))))⟩
            · rw [decide_eq_true q1, decide_eq_true q2, decide_eq_true q3, decide_eq_true q4, decide_eq_false q5]
              go_enter Try.func44, Try.ntmps44
              go_wp2_with fail
              go_ret
              exact ⟨rfl, by (repeat (first | with_reducible exact Below.refl _ _ | with_reducible assumption | with_reducible refine Below.alloc0 ?_ _ | with_reducible refine Below.ext0 ?_ _ | with_reducible refine Below.drew ?_ | with_reducible refine below_drewN ?_ _ | (with_reducible refine Below.setCell (hp := ?hp) ?_ _; case hp => (first | (simp; done) | (simp; omega)))))⟩
          · rw [decide_eq_true q1, decide_eq_true q2, decide_eq_true q3, decide_eq_false q4]
            go_enter Try.func44, Try.ntmps44
            go_wp2_with fail
            go_ret
            exact ⟨rfl, by (repeat (first | with_reducible exact Below.refl _ _ | with_reducible assumption | with_reducible refine Below.alloc0 ?_ _ | with_reducible refine Below.ext0 ?_ _ | with_reducible refine Below.drew ?_ | with_reducible refine below_drewN ?_ _ | (with_reducible refine Below.setCell (hp := ?hp) ?_ _; case hp => (first | (simp; done) | (simp; omega)))))⟩
        · rw [decide_eq_true q1, decide_eq_true q2, decide_eq_false q3]
          go_enter Try.func44, Try.ntmps44
          go_wp2_with fail
          go_ret
          exact ⟨rfl, by (repeat (first | with_reducible exact Below.refl _ _ | with_reducible assumption | with_reducible refine Below.alloc0 ?_ _ | with_reducible refine Below.ext0 ?_ _ | with_reducible refine Below.drew ?_ | with_reducible refine below_drewN ?_ _ | (with_reducible refine Below.setCell (hp := ?hp) ?_ _; case hp => (first | (simp; done) | (simp; omega)))))⟩
      · rw [decide_eq_true q1, decide_eq_false q2]
        go_enter Try.func44, Try.ntmps44
        go_wp2_with fail
        go_ret
        exact ⟨rfl, by (repeat (first | with_reducible exact Below.refl _ _ | with_reducible assumption | with_reducible refine Below.alloc0 ?_ _ | with_reducible refine Below.ext0 ?_ _ | with_reducible refine Below.drew ?_ | with_reducible refine below_drewN ?_ _ | (with_reducible refine Below.setCell (hp := ?hp) ?_ _; case hp => (first | (simp; done) | (simp; omega)))))⟩
    · rw [decide_eq_false q1]
      go_enter Try.func44, Try.ntmps44
      go_wp2_with fail
      go_ret
      exact ⟨rfl, by (repeat (first | with_reducible exact Below.refl _ _ | with_reducible assumption | with_reducible refine Below.alloc0 ?_ _ | with_reducible refine Below.ext0 ?_ _ | with_reducible refine Below.drew ?_ | with_reducible refine below_drewN ?_ _ | (with_reducible refine Below.setCell (hp := ?hp) ?_ _; case hp => (first | (simp; done) | (simp; omega)))))⟩

theorem rratio_in (num den most : Int) (has : Bool) (hm : most = 1 ∨ most = 10) (hn : fits num) (hd : fits den) (r : Bool) (h : ratioP (num, den) has most = r) : ∀ X, Calls Try.prog 44 #[.agg #[.int .i64 num, .int .i64 den], .bool has, .int .i64 most] X fun e w' => e = .returned (.bool r) ∧ Below X.heap.size X w' := fun X => by
  have := rratio_any num den most has X hm hn hd
  rwa [h] at this
set_option maxRecDepth 100000 in
set_option maxHeartbeats 2000000 in
theorem rranges_any (kd : Int) (nm : ByteArray) (AW : Option Addr) (k cw : Nat) (n rn rd sn sd att : Int) (ws : List (List Ts)) (w : World) (f1 : fits kd) (f2 : fits n) (f3 : fits rn) (f4 : fits rd) (f5 : fits sn) (f6 : fits sd) :
    Calls Try.prog 38 #[.agg #[.int .i64 kd, .string nm, .slice AW k cw, .int .i64 n, .int .i64 rn, .int .i64 rd, .int .i64 sn, .int .i64 sd, .int .i64 att]] w fun e w' => e = .returned (.bool (inRangeP (kd, nm, ws, n, (rn, rd), (sn, sd), att))) ∧ Below w.heap.size w w' := by
  obtain ⟨mo, hmo⟩ : ∃ q, mostP kd = q := ⟨_, rfl⟩
  obtain ⟨b1, hb1⟩ : ∃ b, ratioP (rn, rd) (decide (kd = 3) || decide (kd = 4) || decide (kd = 5)) (if kd = 4 then 10 else 1) = b := ⟨_, rfl⟩
  obtain ⟨b2, hb2⟩ : ∃ b, ratioP (sn, sd) (decide (kd = 3) || decide (kd = 4)) 1 = b := ⟨_, rfl⟩
  have he : inRangeP (kd, nm, ws, n, (rn, rd), (sn, sd), att) = (decide (0 ≤ n) && decide (n ≤ mo) && b1 && b2) := by unfold inRangeP; rw [hmo, hb1, hb2]
  rw [he]
  obtain ⟨R, hR⟩ : ∃ R, (decide (0 ≤ n) && decide (n ≤ mo) && b1 && b2) = R := ⟨_, rfl⟩
  rw [hR]
  have HR := Lib.hid hR
  clear hR
  have Hb1 := Lib.hid (rratio_in rn rd _ _ (by split <;> omega) f3 f4 b1 hb1)
  have Hb2 := Lib.hid (rratio_in sn sd 1 _ (.inl rfl) f5 f6 b2 hb2)
  clear he hb1 hb2
  have hk : kd = 1 ∨ kd = 3 ∨ kd = 4 ∨ kd = 5 ∨ (kd ≠ 1 ∧ kd ≠ 3 ∧ kd ≠ 4 ∧ kd ≠ 5) := by omega
  rcases hk with rfl | rfl | rfl | rfl | ⟨q1, q3, q4, q5⟩
  · obtain rfl : mo = 100 := by rw [← hmo]; rfl
    clear hmo
    simp at Hb1 Hb2
    go_enter Try.func38, Try.ntmps38
    by_cases c1 : 0 ≤ n
    · by_cases c2 : n ≤ 100
      · cases b1 <;> cases b2
        all_goals
          go_wp2_with (go_at_call 44; first | (with_reducible refine Calls.mono (Hb1.out _) ?_; rintro e w9 ⟨rfl, hb⟩; (first | (obtain ⟨u, rfl⟩ := ext_more hb; clear hb) | (obtain ⟨u, rfl⟩ := ext_more_alloc hb; clear hb) | (obtain ⟨u, rfl⟩ := ext_of hb; clear hb))) | (with_reducible refine Calls.mono (Hb2.out _) ?_; rintro e w9 ⟨rfl, hb⟩; (first | (obtain ⟨u, rfl⟩ := ext_more hb; clear hb) | (obtain ⟨u, rfl⟩ := ext_more_alloc hb; clear hb) | (obtain ⟨u, rfl⟩ := ext_of hb; clear hb))))
          go_ret
          exact ⟨ret_bool (by rw [← HR.out]; first | rfl | (simp; done) | (simp; omega) | (simp [*]; done)), by (repeat (first | with_reducible exact Below.refl _ _ | with_reducible assumption | with_reducible refine Below.alloc0 ?_ _ | with_reducible refine Below.ext0 ?_ _ | with_reducible refine Below.drew ?_ | with_reducible refine below_drewN ?_ _ | (with_reducible refine Below.setCell (hp := ?hp) ?_ _; case hp => (first | (simp; done) | (simp; omega)))))⟩
      · go_wp2_with fail
        go_ret
        exact ⟨ret_bool (by rw [← HR.out]; first | rfl | (simp; done) | (simp; omega) | (simp [*]; done)), by (repeat (first | with_reducible exact Below.refl _ _ | with_reducible assumption | with_reducible refine Below.alloc0 ?_ _ | with_reducible refine Below.ext0 ?_ _ | with_reducible refine Below.drew ?_ | with_reducible refine below_drewN ?_ _ | (with_reducible refine Below.setCell (hp := ?hp) ?_ _; case hp => (first | (simp; done) | (simp; omega)))))⟩
    · go_wp2_with fail
      go_ret
      exact ⟨ret_bool (by rw [← HR.out]; first | rfl | (simp; done) | (simp; omega) | (simp [*]; done)), by (repeat (first | with_reducible exact Below.refl _ _ | with_reducible assumption | with_reducible refine Below.alloc0 ?_ _ | with_reducible refine Below.ext0 ?_ _ | with_reducible refine Below.drew ?_ | with_reducible refine below_drewN ?_ _ | (with_reducible refine Below.setCell (hp := ?hp) ?_ _; case hp => (first | (simp; done) | (simp; omega)))))⟩
  · obtain rfl : mo = 10000000 := by rw [← hmo]; rfl
    clear hmo
    simp at Hb1 Hb2
    go_enter Try.func38, Try.ntmps38
    by_cases c1 : 0 ≤ n
    · by_cases c2 : n ≤ 10000000
      · cases b1 <;> cases b2
        all_goals
          go_wp2_with (go_at_call 44; first | (with_reducible refine Calls.mono (Hb1.out _) ?_; rintro e w9 ⟨rfl, hb⟩; (first | (obtain ⟨u, rfl⟩ := ext_more hb; clear hb) | (obtain ⟨u, rfl⟩ := ext_more_alloc hb; clear hb) | (obtain ⟨u, rfl⟩ := ext_of hb; clear hb))) | (with_reducible refine Calls.mono (Hb2.out _) ?_; rintro e w9 ⟨rfl, hb⟩; (first | (obtain ⟨u, rfl⟩ := ext_more hb; clear hb) | (obtain ⟨u, rfl⟩ := ext_more_alloc hb; clear hb) | (obtain ⟨u, rfl⟩ := ext_of hb; clear hb))))
          go_ret
          exact ⟨ret_bool (by rw [← HR.out]; first | rfl | (simp; done) | (simp; omega) | (simp [*]; done)), by (repeat (first | with_reducible exact Below.refl _ _ | with_reducible assumption | with_reducible refine Below.alloc0 ?_ _ | with_reducible refine Below.ext0 ?_ _ | with_reducible refine Below.drew ?_ | with_reducible refine below_drewN ?_ _ | (with_reducible refine Below.setCell (hp := ?hp) ?_ _; case hp => (first | (simp; done) | (simp; omega)))))⟩
      · go_wp2_with fail
        go_ret
        exact ⟨ret_bool (by rw [← HR.out]; first | rfl | (simp; done) | (simp; omega) | (simp [*]; done)), by (repeat (first | with_reducible exact Below.refl _ _ | with_reducible assumption | with_reducible refine Below.alloc0 ?_ _ | with_reducible refine Below.ext0 ?_ _ | with_reducible refine Below.drew ?_ | with_reducible refine below_drewN ?_ _ | (with_reducible refine Below.setCell (hp := ?hp) ?_ _; case hp => (first | (simp; done) | (simp; omega)))))⟩
    · go_wp2_with fail
      go_ret
      exact ⟨ret_bool (by rw [← HR.out]; first | rfl | (simp; done) | (simp; omega) | (simp [*]; done)), by (repeat (first | with_reducible exact Below.refl _ _ | with_reducible assumption | with_reducible refine Below.alloc0 ?_ _ | with_reducible refine Below.ext0 ?_ _ | with_reducible refine Below.drew ?_ | with_reducible refine below_drewN ?_ _ | (with_reducible refine Below.setCell (hp := ?hp) ?_ _; case hp => (first | (simp; done) | (simp; omega)))))⟩
  · obtain rfl : mo = 0 := by rw [← hmo]; rfl
    clear hmo
    simp at Hb1 Hb2
    go_enter Try.func38, Try.ntmps38
    by_cases c1 : 0 ≤ n
    · by_cases c2 : n ≤ 0
      · cases b1 <;> cases b2
        all_goals
          go_wp2_with (go_at_call 44; first | (with_reducible refine Calls.mono (Hb1.out _) ?_; rintro e w9 ⟨rfl, hb⟩; (first | (obtain ⟨u, rfl⟩ := ext_more hb; clear hb) | (obtain ⟨u, rfl⟩ := ext_more_alloc hb; clear hb) | (obtain ⟨u, rfl⟩ := ext_of hb; clear hb))) | (with_reducible refine Calls.mono (Hb2.out _) ?_; rintro e w9 ⟨rfl, hb⟩; (first | (obtain ⟨u, rfl⟩ := ext_more hb; clear hb) | (obtain ⟨u, rfl⟩ := ext_more_alloc hb; clear hb) | (obtain ⟨u, rfl⟩ := ext_of hb; clear hb))))
          go_ret
          exact ⟨ret_bool (by rw [← HR.out]; first | rfl | (simp; done) | (simp; omega) | (simp [*]; done)), by (repeat (first | with_reducible exact Below.refl _ _ | with_reducible assumption | with_reducible refine Below.alloc0 ?_ _ | with_reducible refine Below.ext0 ?_ _ | with_reducible refine Below.drew ?_ | with_reducible refine below_drewN ?_ _ | (with_reducible refine Below.setCell (hp := ?hp) ?_ _; case hp => (first | (simp; done) | (simp; omega)))))⟩
      · go_wp2_with fail
        go_ret
        exact ⟨ret_bool (by rw [← HR.out]; first | rfl | (simp; done) | (simp; omega) | (simp [*]; done)), by (repeat (first | with_reducible exact Below.refl _ _ | with_reducible assumption | with_reducible refine Below.alloc0 ?_ _ | with_reducible refine Below.ext0 ?_ _ | with_reducible refine Below.drew ?_ | with_reducible refine below_drewN ?_ _ | (with_reducible refine Below.setCell (hp := ?hp) ?_ _; case hp => (first | (simp; done) | (simp; omega)))))⟩
    · go_wp2_with fail
      go_ret
      exact ⟨ret_bool (by rw [← HR.out]; first | rfl | (simp; done) | (simp; omega) | (simp [*]; done)), by (repeat (first | with_reducible exact Below.refl _ _ | with_reducible assumption | with_reducible refine Below.alloc0 ?_ _ | with_reducible refine Below.ext0 ?_ _ | with_reducible refine Below.drew ?_ | with_reducible refine below_drewN ?_ _ | (with_reducible refine Below.setCell (hp := ?hp) ?_ _; case hp => (first | (simp; done) | (simp; omega)))))⟩
  · obtain rfl : mo = 0 := by rw [← hmo]; rfl
    clear hmo
    simp at Hb1 Hb2
    go_enter Try.func38, Try.ntmps38
    by_cases c1 : 0 ≤ n
    · by_cases c2 : n ≤ 0
      · cases b1 <;> cases b2
        all_goals
          go_wp2_with (go_at_call 44; first | (with_reducible refine Calls.mono (Hb1.out _) ?_; rintro e w9 ⟨rfl, hb⟩; (first | (obtain ⟨u, rfl⟩ := ext_more hb; clear hb) | (obtain ⟨u, rfl⟩ := ext_more_alloc hb; clear hb) | (obtain ⟨u, rfl⟩ := ext_of hb; clear hb))) | (with_reducible refine Calls.mono (Hb2.out _) ?_; rintro e w9 ⟨rfl, hb⟩; (first | (obtain ⟨u, rfl⟩ := ext_more hb; clear hb) | (obtain ⟨u, rfl⟩ := ext_more_alloc hb; clear hb) | (obtain ⟨u, rfl⟩ := ext_of hb; clear hb))))
          go_ret
          exact ⟨ret_bool (by rw [← HR.out]; first | rfl | (simp; done) | (simp; omega) | (simp [*]; done)), by (repeat (first | with_reducible exact Below.refl _ _ | with_reducible assumption | with_reducible refine Below.alloc0 ?_ _ | with_reducible refine Below.ext0 ?_ _ | with_reducible refine Below.drew ?_ | with_reducible refine below_drewN ?_ _ | (with_reducible refine Below.setCell (hp := ?hp) ?_ _; case hp => (first | (simp; done) | (simp; omega)))))⟩
      · go_wp2_with fail
        go_ret
        exact ⟨ret_bool (by rw [← HR.out]; first | rfl | (simp; done) | (simp; omega) | (simp [*]; done)), by (repeat (first | with_reducible exact Below.refl _ _ | with_reducible assumption | with_reducible refine Below.alloc0 ?_ _ | with_reducible refine Below.ext0 ?_ _ | with_reducible refine Below.drew ?_ | with_reducible refine below_drewN ?_ _ | (with_reducible refine Below.setCell (hp := ?hp) ?_ _; case hp => (first | (simp; done) | (simp; omega)))))⟩
    · go_wp2_with fail
      go_ret
      exact ⟨ret_bool (by rw [← HR.out]; first | rfl | (simp; done) | (simp; omega) | (simp [*]; done)), by (repeat (first | with_reducible exact Below.refl _ _ | with_reducible assumption | with_reducible refine Below.alloc0 ?_ _ | with_reducible refine Below.ext0 ?_ _ | with_reducible refine Below.drew ?_ | with_reducible refine below_drewN ?_ _ | (with_reducible refine Below.setCell (hp := ?hp) ?_ _; case hp => (first | (simp; done) | (simp; omega)))))⟩
  · obtain rfl : mo = 0 := by rw [← hmo]; unfold mostP; rw [if_neg q1, if_neg q3]
    clear hmo
    have d3 := decide_eq_false q3
    have d4 := decide_eq_false q4
    have d5 := decide_eq_false q5
    rw [d3, d4, d5, if_neg q4] at Hb1
    rw [d3, d4] at Hb2
    simp at Hb1 Hb2
    have e1 : (kd == 1) = false := by simpa using q1
    have e3 : (kd == 3) = false := by simpa using q3
    have e4 : (kd == 4) = false := by simpa using q4
    have e5 : (kd == 5) = false := by simpa using q5
    clear q1 q3 q4 q5 d3 d4 d5
    go_enter Try.func38, Try.ntmps38
    by_cases c1 : 0 ≤ n
    · by_cases c2 : n ≤ 0
      · cases b1 <;> cases b2
        all_goals
          go_wp2_with (go_at_call 44; first | (with_reducible refine Calls.mono (Hb1.out _) ?_; rintro e w9 ⟨rfl, hb⟩; (first | (obtain ⟨u, rfl⟩ := ext_more hb; clear hb) | (obtain ⟨u, rfl⟩ := ext_more_alloc hb; clear hb) | (obtain ⟨u, rfl⟩ := ext_of hb; clear hb))) | (with_reducible refine Calls.mono (Hb2.out _) ?_; rintro e w9 ⟨rfl, hb⟩; (first | (obtain ⟨u, rfl⟩ := ext_more hb; clear hb) | (obtain ⟨u, rfl⟩ := ext_more_alloc hb; clear hb) | (obtain ⟨u, rfl⟩ := ext_of hb; clear hb))))
          go_ret
          exact ⟨ret_bool (by rw [← HR.out]; first | rfl | (simp; done) | (simp; omega) | (simp [*]; done)), by (repeat (first | with_reducible exact Below.refl _ _ | with_reducible assumption | with_reducible refine Below.alloc0 ?_ _ | with_reducible refine Below.ext0 ?_ _ | with_reducible refine Below.drew ?_ | with_reducible refine below_drewN ?_ _ | (with_reducible refine Below.setCell (hp := ?hp) ?_ _; case hp => (first | (simp; done) | (simp; omega)))))⟩
      · go_wp2_with fail
        go_ret
        exact ⟨ret_bool (by rw [← HR.out]; first | rfl | (simp; done) | (simp; omega) | (simp [*]; done)), by (repeat (first | with_reducible exact Below.refl _ _ | with_reducible assumption | with_reducible refine Below.alloc0 ?_ _ | with_reducible refine Below.ext0 ?_ _ | with_reducible refine Below.drew ?_ | with_reducible refine below_drewN ?_ _ | (with_reducible refine Below.setCell (hp := ?hp) ?_ _; case hp => (first | (simp; done) | (simp; omega)))))⟩
    · go_wp2_with fail
      go_ret
      exact ⟨ret_bool (by rw [← HR.out]; first | rfl | (simp; done) | (simp; omega) | (simp [*]; done)), by (repeat (first | with_reducible exact Below.refl _ _ | with_reducible assumption | with_reducible refine Below.alloc0 ?_ _ | with_reducible refine Below.ext0 ?_ _ | with_reducible refine Below.drew ?_ | with_reducible refine below_drewN ?_ _ | (with_reducible refine Below.setCell (hp := ?hp) ?_ _; case hp => (first | (simp; done) | (simp; omega)))))⟩
end Go.Proofs.Ytecjhniomjmocaa
