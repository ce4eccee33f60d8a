/- Layer 13 (decide): what Valid asks of zones and numbers. -/
import Derived.Test.YtmklcfmdcfbpeaaDecA
namespace Go.Proofs.Ytmklcfmdcfbpeaa
open Go.RowKit
set_option linter.unusedVariables false
set_option linter.unusedSimpArgs false
attribute [local go_sem] ext_cell ext_frozen lt_ext ext_drew

def limZ : Zn := [(0, 1000000000), (0, 150), (0, 1), (0, 19), (0, 7), (0, 319), (0, 3), (0, 3), (1, 12), (0, 100)]
def okR (r l : Rg) : Bool := decide (r.1 ≤ r.2) && decide (l.1 ≤ r.1) && decide (r.2 ≤ l.2)
def okZ (z : Zn) : Bool := (List.range 10).all fun i => okR (atR z i) (atR limZ i)
def mostB (num den most : Int) : Bool := decide (1 ≤ den) && decide (den ≤ 1000000) && decide (0 ≤ num) && decide (num ≤ most * den) && decide (num ≤ 1000000)
def numsB (kd n rn rd sn sd : Int) : Bool :=
  if kd = 1 then decide (0 ≤ n) && decide (n ≤ 100)
  else if kd = 3 then decide (0 ≤ n) && decide (n ≤ 10000000) && mostB rn rd 1 && mostB sn sd 1
  else if kd = 4 then mostB rn rd 10 && mostB sn sd 1
  else if kd = 5 then mostB rn rd 1
  else decide (kd = 2) || decide (kd = 6) || decide (kd = 7)

theorem okZ_bad {z : Zn} {k : Nat} (hk : k < 10) (h : okR (atR z k) (atR limZ k) = false) : okZ z = false := by
  unfold okZ
  rw [List.all_eq_false]
  exact ⟨k, List.mem_range.2 hk, by rw [h]; decide⟩
theorem okZ_all {z : Zn} (h : ∀ k, k < 10 → okR (atR z k) (atR limZ k) = true) : okZ z = true := by
  unfold okZ
  exact List.all_eq_true.2 fun k hk => h k (List.mem_range.1 hk)

theorem index_zn {z : Zn} (hz : z.length = 10) {k : Nat} (hk : k < 10) (w : World) : (Instr.index 44 (.agg (znV z)) (.int .i64 k)).run Try.prog w = .ok (.agg #[.int .i64 (atR z k).1, .int .i64 (atR z k).2]) w := by
  have h := run_index_agg (P := Try.prog) (m := 2) Try.underlying44 Try.underlying42 rfl (by kernel_rfl) (znV z) k hk w
  have hp := znV_at (z := z) (k := k) (by omega)
  have hs := znV_size hz
  have e : (znV z).extract (k * 2) (k * 2 + 2) = #[.int .i64 (atR z k).1, .int .i64 (atR z k).2] := by
    apply Array.ext_getElem?
    intro i
    rw [Array.getElem?_extract]
    by_cases hi : i < 2
    · rw [if_pos (by omega)]
      rcases (show i = 0 ∨ i = 1 by omega) with rfl | rfl
      · exact hp.1
      · exact hp.2
    · rw [if_neg (by omega), Array.getElem?_eq_none (by simp; omega)]
  rw [e] at h
  exact h

theorem limZ_len : limZ.length = 10 := rfl
theorem info_zone : (Try.prog.info? 44).map (·.size) = some (znV limZ).size := by kernel_rfl

set_option maxRecDepth 100000 in
theorem limits_any (w : World) : Calls Try.prog 38 #[] w fun e w' => e = .returned (.agg (znV limZ)) ∧ Below w.heap.size w w' := by
  go_enter Try.func38, Try.ntmps38
  go_wp2_with (refine list_store_fresh (o := ⟨none, .store 44 _ _, _, _, _, _⟩) rfl _ _ _ rfl (znV limZ) rfl rfl info_zone rfl (one_pairs limZ) ?_)
  exact bodyPost_ret (v := .agg (znV limZ)) (results_cell_row rfl _ _ w.heap.size 44 (znV limZ) (0, 0) _ rfl (heap_alloc_new w _) Try.underlying44 rfl info_zone) rfl ⟨rfl, below_self _ _⟩
def hisL : List Int := [1000000000, 150, 1, 19, 7, 319, 3, 3, 12, 100]
def limK (k : Nat) : Zn := (List.range 10).map fun i => (0, if i < k then atF hisL i else 0)
theorem limK_len (k : Nat) : (limK k).length = 10 := by simp [limK]
theorem limK_step : ∀ k, k < 10 → (limK k).set k (0, atF hisL k) = limK (k + 1) := by decide +kernel
theorem limK_lo : ∀ k, k < 10 → (atR (limK k) k).1 = 0 := by decide +kernel
theorem znV_hi {z : Zn} {k : Nat} (hk : k < z.length) (v : Int) : (znV z).setIfInBounds (k * 2 + 1) (.int .i64 v) = znV (z.set k ((atR z k).1, v)) := by
  have hl : (znV z).size = z.length * 2 := by simp [znV, pairsV_len]
  have hl2 : (znV (z.set k ((atR z k).1, v))).size = z.length * 2 := by simp [znV, pairsV_len]
  apply Array.ext_getElem?
  intro j
  by_cases hj : j < z.length * 2
  · have hi : j / 2 < z.length := by omega
    have h1 := znV_at (z := z) hi
    have h2 := znV_at (z := z.set k ((atR z k).1, v)) (k := j / 2) (by simpa using hi)
    have hat : atR (z.set k ((atR z k).1, v)) (j / 2) = if k = j / 2 then ((atR z k).1, v) else atR z (j / 2) := by
      unfold atR
      rw [List.getD_eq_getElem?_getD, List.getElem?_set]
      by_cases e : k = j / 2
      · simp [e, hi]
      · simp [e]
    rw [hat] at h2
    rw [Array.getElem?_setIfInBounds]
    rcases (show j = j / 2 * 2 ∨ j = j / 2 * 2 + 1 by omega) with e9 | e9
    · rw [if_neg (by omega)]
      have a1 := h1.1
      have a2 := h2.1
      rw [← e9] at a1 a2
      rw [a1, a2]
      by_cases e : k = j / 2
      · simp [e]
      · simp [e]
    · have a1 := h1.2
      have a2 := h2.2
      rw [← e9] at a1 a2
      by_cases e : k = j / 2
      · rw [if_pos (by omega), if_pos (by omega), a2, if_pos e]
      · rw [if_neg (by omega), a1, a2, if_neg e]
  · rw [Array.getElem?_eq_none (by simp; omega), Array.getElem?_eq_none (by omega)]

set_option maxRecDepth 100000 in
set_option maxHeartbeats 1000000 in
theorem rlimits_any (w : World) : Calls Try.prog 28 #[] w fun e w' => e = .returned (.agg (znV limZ)) ∧ Below w.heap.size w w' := by
  go_enter Try.func28, Try.ntmps28
  go_upto_region 3 with (fail)
  refine forget (fun W => Below w.heap.size w W ∧ Bk W w.heap.size (znV (limK 0)) 44 ∧ Bk W (w.heap.size + 1) (znV (limK 0)) 44 ∧ Bk W (w.heap.size + 2) (fcV hisL) 3) ⟨by (repeat (first | with_reducible exact Below.refl _ _ | with_reducible assumption | with_reducible refine Below.alloc0 ?_ _ | with_reducible refine Below.ext0 ?_ _ | with_reducible refine Below.drew ?_ | with_reducible refine below_drewN ?_ _ | (with_reducible refine Below.setCell (hp := ?hp) ?_ _; case hp => (first | (simp; done) | (simp; omega))))), ?_, ?_, ?_⟩ ?_
  · exact ((Bk.new w _ _).alloc _).alloc _
  · exact (bk_new_at _ _ _ _ (by simp)).alloc _
  · exact bk_new_at _ _ _ _ (by simp)
  rintro W ⟨hw, b0, b1, b2⟩
  have HW := Lib.hid (And.intro hw (And.intro b0 (And.intro b1 b2)))
  generalize hg : w.heap.size = g at *
  have Hg := Lib.hid hg
  clear hw b0 b1 b2 hg
  go_wp2_with fail
  go_loopw [3] (fun i wr => ∃ (k : Nat), k ≤ 10 ∧ i = .int .i64 k ∧ Bk wr (g + 1) (znV (limK k)) 44 ∧ Only (fun b => b = g + 1) W wr) (fun i _ => 10 - (intOf i).toNat)
  case atStart => exact ⟨0, by omega, rfl, HW.out.2.2.1, Only.refl _ _⟩
  case round =>
    obtain ⟨k, hk, rfl, b1, hon⟩ := hrel
    have b2 := HW.out.2.2.2.only hon (by omega)
    have b0 := HW.out.2.1.only hon (by omega)
    have HX := Lib.hid (And.intro b1 (And.intro hon (And.intro b2 b0)))
    have lg := b1.lt
    have l2 := b2.lt
    have l0 := b0.lt
    clear b1 b2 b0 hon
    by_cases hlt : k < 10
    · have hk10 : (k : Int) < 10 := by omega
      have c1 : wr.cell? ⟨g + 2, k, none⟩ = some (.int .i64 (atF hisL k)) := by rw [HX.out.2.2.1.cell]; exact fcV_at (f := hisL) hlt
      have c2 : wr.cell? ⟨g + 1, k * 2 + 1, none⟩ = some (.int .i64 (atR (limK k) k).2) := by rw [HX.out.1.cell]; exact (znV_at (by rw [limK_len]; omega)).2
      have f2 := HX.out.1.free (k * 2 + 1)
      have hst : Hid (Bk (wr.setCell ⟨g + 1, k * 2 + 1, none⟩ (.int .i64 (atF hisL k))) (g + 1) (znV (limK (k + 1))) 44) := by
        have h1 := HX.out.1.set_ (k * 2 + 1) (.int .i64 (atF hisL k))
        rw [znV_hi (by rw [limK_len]; omega), limK_lo k hlt, limK_step k hlt] at h1
        exact h1
      generalize atF hisL k = hi at *
      generalize (atR (limK k) k).2 = old at *
      go_wp2_with fail
      go_roundw
      case rel => exact ⟨k + 1, by omega, by go_num, hst.out, HX.out.2.1.set_ (p := ⟨g + 1, k * 2 + 1, none⟩) (.inl rfl) _⟩
      case measure => simp [intOf]; omega
    · obtain rfl : k = 10 := by omega
      have c16 : wr.cell? ⟨g + 1, 16, none⟩ = some (.int .i64 0) := by rw [HX.out.1.cell]; rfl
      have f16 := HX.out.1.free 16
      go_upto_region 8 with (fail)
      refine forget (fun X => Bk X (g + 1) (znV limZ) 44 ∧ Bk X g (znV (limK 0)) 44 ∧ Below w.heap.size w X) ⟨HX.out.1.set_ 16 (.int .i64 1), HX.out.2.2.2.far (by simp) _, ?_⟩ ?_
      · have h1 := (HX.out.2.1.set_ (p := ⟨g + 1, 16, none⟩) (.inl rfl) (.int .i64 1)).to_below (B := g) (fun b hb => by omega) (by have := HW.out.2.1.lt; omega)
        rw [Hg.out]
        exact HW.out.1.trans h1
      rintro X ⟨b1, b0, hw⟩
      have HY := Lib.hid (And.intro b1 (And.intro b0 hw))
      clear HX HW c16 f16 lg l2 l0 b1 b0 hw
      go_wp2_with (first
        | (refine list_load_at (o := ⟨some 20, _, _, _, _, _⟩) rfl _ _ rfl (g + 1) 0 rfl (znV limZ) _ (fun j u h => by rw [Nat.zero_add, HY.out.1.cell]; exact h) Try.underlying44 rfl info_zone ?_)
        | (refine list_store_bk (o := ⟨none, .store 44 _ _, _, _, _, _⟩) rfl _ _ _ rfl g (znV limZ) rfl rfl HY.out.2.1 info_zone rfl (one_pairs limZ) ?_; intro X2 hb2 ho2))
      exact bodyPost_ret (v := .agg (znV limZ)) (results_cell_row rfl _ _ g 44 (znV limZ) (0, 0) _ rfl hb2 Try.underlying44 rfl info_zone) rfl ⟨rfl, HY.out.2.2.trans (ho2.to_below (fun b hb => by have := Hg.out; omega) (by have := HY.out.2.2.size; omega))⟩

theorem most_any (num den most : Int) (w : World) (hm : 0 ≤ most ∧ most ≤ 10) : Calls Try.prog 41 #[.agg #[.int .i64 num, .int .i64 den], .int .i64 most] w fun e w' => e = .returned (.bool (mostB num den most)) ∧ Below w.heap.size w w' := by
  obtain ⟨m0, m1⟩ := hm
  by_cases hd : 1 ≤ den ∧ den ≤ 1000000
  · obtain ⟨d1, d2⟩ := hd
    have p1 : 0 ≤ most * den := Int.mul_nonneg m0 (by omega)
    have p2 : most * den ≤ 10 * 1000000 := Int.mul_le_mul m1 d2 (by omega) (by omega)
    go_enter Try.func41, Try.ntmps41
    go_wp2_with fail
    all_goals go_ret
    all_goals exact ⟨ret_bool (by unfold mostB; rw [Bool.eq_iff_iff]; simp; omega), below_self _ _⟩
  · have hno : den < 1 ∨ (1 ≤ den ∧ 1000000 < den) := by omega
    have hf : mostB num den most = false := by
      unfold mostB
      rcases hno with h | ⟨_, h⟩
      · rw [decide_eq_false (show ¬ 1 ≤ den by omega)]; simp
      · rw [decide_eq_false (show ¬ den ≤ 1000000 by omega)]; simp
    rw [hf]
    clear hf hd
    rcases hno with hno | ⟨hno, hno2⟩
    all_goals
      go_enter Try.func41, Try.ntmps41
      go_wp2_with fail
      all_goals go_ret
      all_goals exact ⟨rfl, below_self _ _⟩
theorem rmost_any (num den most : Int) (w : World) (hm : 0 ≤ most ∧ most ≤ 10) : Calls Try.prog 43 #[.agg #[.int .i64 num, .int .i64 den], .int .i64 most] w fun e w' => e = .returned (.bool (mostB num den most)) ∧ Below w.heap.size w w' := by
  obtain ⟨m0, m1⟩ := hm
  by_cases hd : 1 ≤ den ∧ den ≤ 1000000
  · obtain ⟨d1, d2⟩ := hd
    have p1 : 0 ≤ most * den := Int.mul_nonneg m0 (by omega)
    have p2 : most * den ≤ 10 * 1000000 := Int.mul_le_mul m1 d2 (by omega) (by omega)
    go_enter Try.func43, Try.ntmps43
    go_wp2_with fail
    all_goals go_ret
    all_goals exact ⟨ret_bool (by unfold mostB; rw [Bool.eq_iff_iff]; simp; omega), below_self _ _⟩
  · have hno : den < 1 ∨ (1 ≤ den ∧ 1000000 < den) := by omega
    have hf : mostB num den most = false := by
      unfold mostB
      rcases hno with h | ⟨_, h⟩
      · rw [decide_eq_false (show ¬ 1 ≤ den by omega)]; simp
      · rw [decide_eq_false (show ¬ den ≤ 1000000 by omega)]; simp
    rw [hf]
    clear hf hd
    rcases hno with hno | ⟨hno, hno2⟩
    all_goals
      go_enter Try.func43, Try.ntmps43
      go_wp2_with fail
      all_goals go_ret
      all_goals exact ⟨rfl, below_self _ _⟩
theorem most_is (r : Bool) (num den most : Int) (w : World) (hm : 0 ≤ most ∧ most ≤ 10) (h : Hid (mostB num den most = r)) : Calls Try.prog 41 #[.agg #[.int .i64 num, .int .i64 den], .int .i64 most] w fun e w' => e = .returned (.bool r) ∧ Below w.heap.size w w' := by
  have := most_any num den most w hm
  rwa [h.out] at this
theorem rmost_is (r : Bool) (num den most : Int) (w : World) (hm : 0 ≤ most ∧ most ≤ 10) (h : Hid (mostB num den most = r)) : Calls Try.prog 43 #[.agg #[.int .i64 num, .int .i64 den], .int .i64 most] w fun e w' => e = .returned (.bool r) ∧ Below w.heap.size w w' := by
  have := rmost_any num den most w hm
  rwa [h.out] at this

set_option maxRecDepth 100000 in
set_option maxHeartbeats 2000000 in
theorem within_any (z : Zn) (w : World) (hz : z.length = 10) : Calls Try.prog 26 #[.agg (znV z)] w fun e w' => e = .returned (.bool (okZ z)) ∧ Below w.heap.size w w' := by
  obtain ⟨r, hr⟩ : ∃ r, okZ z = r := ⟨_, rfl⟩
  rw [hr]
  have Hr := Lib.hid hr
  have HZ := Lib.hid hz
  clear hr hz
  go_enter Try.func26, Try.ntmps26
  go_wp2_with fail
  refine (limits_any _).mono ?_
  rintro e w1 ⟨rfl, hb⟩
  have HB := Lib.hid (And.intro (Below.trans0 (below_self w _) hb) ((Bk.new w (znV z) 44).below hb))
  clear hb
  go_upto_region 2 with (refine list_store_fresh (o := ⟨none, .store 44 _ _, _, _, _, _⟩) rfl _ _ _ rfl (znV limZ) rfl rfl info_zone rfl (one_pairs limZ) ?_)
  refine forget (fun W => Below w.heap.size w W ∧ Bk W w.heap.size (znV z) 44 ∧ Bk W w1.heap.size (znV limZ) 44) ⟨Below.alloc0 HB.out.1 _, HB.out.2.alloc _, Bk.new _ _ _⟩ ?_
  rintro W ⟨hw, b0, b1⟩
  have HW := Lib.hid (And.intro hw (And.intro b0 b1))
  generalize w1.heap.size = g at *
  clear hw b0 b1 HB
  go_wp2_with (refine list_load_at (o := ⟨some 7, _, _, _, _, _⟩) rfl _ _ rfl w.heap.size 0 rfl (znV z) _ (fun j u h => by rw [Nat.zero_add, HW.out.2.1.cell]; exact h) Try.underlying44 rfl (by rw [znV_size HZ.out]; kernel_rfl) ?_)
  go_loopw [8] (fun i wr => ∃ (k : Nat), k ≤ 10 ∧ i = .int .i64 k ∧ (∀ j, j < k → okR (atR z j) (atR limZ j) = true) ∧ Below W.heap.size W wr) (fun i _ => 10 - (intOf i).toNat)
  case atStart => exact ⟨0, by omega, rfl, fun j hj => by omega, Below.refl _ _⟩
  case round =>
    obtain ⟨k, hk, rfl, hall, hlow⟩ := hrel
    have b1 := HW.out.2.2.below hlow
    have HX := Lib.hid (And.intro hall hlow)
    have lg := b1.lt
    have B1 := Lib.hid b1
    have hfin : Hid (Below w.heap.size w wr) := Below.trans0 HW.out.1 hlow
    clear hall hlow b1
    by_cases hlt10 : k < 10
    · have hix := index_zn HZ.out hlt10
      have hk10 : (k : Int) < 10 := by omega
      have d1 : ∀ C : Array Value, (wr.alloc (.cells C 42)).cell? ⟨g, k * 2, none⟩ = some (.int .i64 (atR limZ k).1) := fun C => by rw [(B1.out.alloc _).cell]; exact (znV_at (z := limZ) (show k < 10 by omega)).1
      have d2 : ∀ C : Array Value, (wr.alloc (.cells C 42)).cell? ⟨g, k * 2 + 1, none⟩ = some (.int .i64 (atR limZ k).2) := fun C => by rw [(B1.out.alloc _).cell]; exact (znV_at (z := limZ) (show k < 10 by omega)).2
      have D1 := Lib.hid d1
      have D2 := Lib.hid d2
      clear d1 d2
      have Hnew : okR (atR z k) (atR limZ k) = true → Hid (∀ j, j < k + 1 → okR (atR z j) (atR limZ j) = true) := fun h => Lib.hid fun j hj => by
        by_cases e : j = k
        · subst e; exact h
        · exact HX.out.1 j (by omega)
      have HN := Lib.hid Hnew
      have Hbad : okR (atR z k) (atR limZ k) = false → r = false := fun h => by rw [← Hr.out]; exact okZ_bad hlt10 h
      have HBd := Lib.hid Hbad
      have hok : okR (atR z k) (atR limZ k) = (decide ((atR z k).1 ≤ (atR z k).2) && decide ((atR limZ k).1 ≤ (atR z k).1) && decide ((atR z k).2 ≤ (atR limZ k).2)) := rfl
      rw [hok] at HN HBd
      clear Hnew Hbad hok
      generalize (atR z k).1 = lo at *
      generalize (atR z k).2 = hi at *
      generalize (atR limZ k).1 = ll at *
      generalize (atR limZ k).2 = lh at *
      have e1 := D1.out #[.int .i64 lo, .int .i64 hi]
      have e2 := D2.out #[.int .i64 lo, .int .i64 hi]
      have hcs : (decide (hi < lo) = true) ∨ (decide (hi < lo) = false ∧ decide (lo < ll) = true) ∨ (decide (hi < lo) = false ∧ decide (lo < ll) = false ∧ decide (lh < hi) = true) ∨ (decide (hi < lo) = false ∧ decide (lo < ll) = false ∧ decide (lh < hi) = false) := by
        by_cases h1 : hi < lo <;> by_cases h2 : lo < ll <;> by_cases h3 : lh < hi <;> simp [h1, h2, h3]
      rcases hcs with h1 | ⟨h1, h2⟩ | ⟨h1, h2, h3⟩ | ⟨h1, h2, h3⟩
      · obtain rfl : r = false := HBd.out (by simp at h1 ⊢; omega)
        go_wp2_with fail
        go_quiet (fail)
        go_wp2_with fail
        go_ret
        exact ⟨rfl, below_drewN (Below.alloc0 hfin.out _) _⟩
      · obtain rfl : r = false := HBd.out (by simp at h1 h2 ⊢; omega)
        go_wp2_with fail
        go_quiet (fail)
        go_wp2_with fail
        go_ret
        exact ⟨rfl, below_drewN (Below.alloc0 hfin.out _) _⟩
      · obtain rfl : r = false := HBd.out (by simp at h1 h2 h3 ⊢; omega)
        go_wp2_with fail
        go_quiet (fail)
        go_wp2_with fail
        go_ret
        exact ⟨rfl, below_drewN (Below.alloc0 hfin.out _) _⟩
      · have hn := HN.out (by simp at h1 h2 h3 ⊢; omega)
        go_wp2_with fail
        go_quiet (fail)
        go_wp2_with fail
        go_roundw
        case rel => exact ⟨k + 1, by omega, by go_num, hn.out, below_drewN (Below.alloc0 HX.out.2 _) _⟩
        case measure => simp [intOf]; omega
    · obtain rfl : k = 10 := by omega
      obtain rfl : r = true := by rw [← Hr.out]; exact okZ_all HX.out.1
      go_wp2_with fail
      go_ret
      exact ⟨rfl, hfin.out⟩
theorem badz_any (z : Zn) (w : World) (hz : z.length = 10) : Calls Try.prog 25 #[.agg (znV z)] w fun e w' => e = .returned (.bool (!okZ z)) ∧ Below w.heap.size w w' := by
  obtain ⟨r, hr⟩ : ∃ r, okZ z = r := ⟨_, rfl⟩
  have H := Lib.hid (within_any z (w.alloc (.cells (znV z) 44)) hz)
  have HP := Lib.hid (Bk.new w (znV z) 44)
  rw [hr] at H ⊢
  have HZ := Lib.hid hz
  clear hr hz
  go_enter Try.func25, Try.ntmps25
  go_wp2_with (refine list_load_at (o := ⟨some 3, _, _, _, _, _⟩) rfl _ _ rfl w.heap.size 0 rfl (znV z) _ (fun j u h => by rw [Nat.zero_add, HP.out.cell]; exact h) Try.underlying44 rfl (by rw [znV_size HZ.out]; kernel_rfl) ?_)
  refine H.out.mono ?_
  rintro e w1 ⟨rfl, hb⟩
  have HB := Lib.hid (Below.trans0 (below_self w _) hb)
  clear hb
  cases r
  all_goals
    go_wp2_with fail
    go_ret
    exact ⟨rfl, HB.out⟩
end Go.Proofs.Ytmklcfmdcfbpeaa
