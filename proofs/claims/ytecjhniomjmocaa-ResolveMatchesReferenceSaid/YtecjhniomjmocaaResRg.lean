/- Layer 12 (resolve): the reference's Within: the ranges that an operation leaves, apart from empty ones. -/
import Derived.Test.YtecjhniomjmocaaResRf
import Derived.Deep.DeepCutAuto
import Derived.Deep.CutBlock
namespace Go.Proofs.Ytecjhniomjmocaa
open Go.RowKit Go.ChangeAt
set_option linter.unusedVariables false
set_option linter.unusedSimpArgs false
attribute [local go_sem] ext_cell ext_frozen lt_ext ext_drew

def pRg (r : Rg) : List Value := [.int .i64 r.1, .int .i64 r.2]
theorem rg_rd (w : World) (B : Nat) {r : Rg} (h : fits r.1 ∧ fits r.2) : tRg.rd w B (pRg r) r := ⟨[_], [_], rfl, ⟨rfl, h.1⟩, ⟨rfl, h.2⟩⟩
theorem one_rg : ∀ (w : World) (B : Nat) (cs : List Value) (x : Rg), tRg.rd w B cs x → ∀ u ∈ cs, u.oneCell' = true := by
  rintro w B cs x ⟨c1, c2, rfl, ⟨rfl, _⟩, ⟨rfl, _⟩⟩ u hu
  simp at hu
  rcases hu with rfl | rfl <;> rfl
set_option maxRecDepth 100000 in
set_option maxHeartbeats 4000000 in
theorem rwithin_any (lo hi op n : Int) (w : World) (hlo : fits lo) (hhi : fits hi) (h1 : 1 ≤ op) (h6 : op ≤ 6) (hn : 0 ≤ n ∧ n ≤ 1000000000) :
    Calls Try.prog 47 #[.agg #[.int .i64 lo, .int .i64 hi], .int .i64 op, .int .i64 n] w fun e w' => ∃ A c, e = .returned (.slice A (withinP (lo, hi) op n).length c) ∧ Elems tRg w' w'.heap.size A (withinP (lo, hi) op n) ∧ Fresh w.heap.size A ∧ Below w.heap.size w w' := by
  have hfit := cand_fits (r := (lo, hi)) (op := op) (n := n) ⟨hlo, hhi⟩ hn
  have hlen := cand_len (r := (lo, hi)) (op := op) (n := n)
  unfold fits at hlo hhi
  obtain ⟨l1, l2⟩ := hlo
  obtain ⟨k1, k2⟩ := hhi
  obtain ⟨n1, n2⟩ := hn
  have HF := Lib.hid hfit
  have hwt : withinP (lo, hi) op n = (candP (lo, hi) op n).filter fun r => decide (r.1 ≤ r.2) := rfl
  rw [hwt]
  obtain ⟨cs, hcs⟩ : ∃ cs, candP (lo, hi) op n = cs := ⟨_, rfl⟩
  rw [hcs] at hlen ⊢
  have HC := Lib.hid hcs
  clear hwt hfit hcs
  have hmx := ite_max
  have hmn := ite_min
  go_enter Try.func47, Try.ntmps47
  go_upto_region 3 with (fail)
  refine forget (fun X => Below w.heap.size w X ∧ Bk X w.heap.size #[.int .i64 lo, .int .i64 hi] 40 ∧ Bk X (w.heap.size + 1) #[.int .i64 lo, .int .i64 (min hi (n - 1))] 40 ∧ Bk X (w.heap.size + 1 + 1) #[.int .i64 (max lo (n + 1)), .int .i64 hi] 40) ⟨by (repeat (first | with_reducible exact Below.refl _ _ | with_reducible assumption | with_reducible refine Below.alloc0 ?_ _ | with_reducible refine Below.ext0 ?_ _ | with_reducible refine Below.drew ?_ | with_reducible refine below_drewN ?_ _ | (with_reducible refine Below.setCell (hp := ?hp) ?_ _; case hp => (first | (simp; done) | (simp; omega))))), ((Bk.new w _ _).alloc _).alloc _, (bk_next w _ _ _).alloc _, bk_new_at _ _ _ _ (by simp)⟩ ?_
  rintro X ⟨hX, b0, b1, b2⟩
  have c00 : X.cell? ⟨w.heap.size, 0, none⟩ = some (.int .i64 lo) := b0.cell 0
  have c01 : X.cell? ⟨w.heap.size, 1, none⟩ = some (.int .i64 hi) := b0.cell 1
  have c10 : X.cell? ⟨w.heap.size + 1, 0, none⟩ = some (.int .i64 lo) := b1.cell 0
  have c11 : X.cell? ⟨w.heap.size + 1, 1, none⟩ = some (.int .i64 (min hi (n - 1))) := b1.cell 1
  have c20 : X.cell? ⟨w.heap.size + 1 + 1, 0, none⟩ = some (.int .i64 (max lo (n + 1))) := b2.cell 0
  have c21 : X.cell? ⟨w.heap.size + 1 + 1, 1, none⟩ = some (.int .i64 hi) := b2.cell 1
  have y0 := b0.lt
  have y1 := b1.lt
  have y2 := b2.lt
  have HX := Lib.hid hX
  clear hX b0 b1 b2
  go_upto_block 0 with (fail)
  go_cut [9] (fun v X' => ∃ g c, v = .slice (some ⟨g, 0, none⟩) cs.length c ∧ Bk X' g (pairsV cs).toArray 40 ∧ Below X.heap.size X X')
  case first =>
    have hop : op = 1 ∨ op = 2 ∨ op = 3 ∨ op = 4 ∨ op = 5 ∨ op = 6 := by omega
    rcases hop with rfl | rfl | rfl | rfl | rfl | rfl
    all_goals
      go_wp2_with fail
      go_meet
      have e := HC.out
      subst e
      exact ⟨_, _, rfl, Bk.new _ _ _, by (repeat (first | with_reducible exact Below.refl _ _ | with_reducible assumption | with_reducible refine Below.alloc0 ?_ _ | with_reducible refine Below.ext0 ?_ _ | with_reducible refine Below.drew ?_ | with_reducible refine below_drewN ?_ _ | (with_reducible refine Below.setCell (hp := ?hp) ?_ _; case hp => (first | (simp; done) | (simp; omega)))))⟩
  case rest =>
  obtain ⟨Y, hY9⟩ : ∃ Y, Y = wc := ⟨_, rfl⟩
  rw [← hY9] at hcut ⊢
  obtain ⟨g, c, rfl, bl, hlow⟩ := hcut
  have HY := Lib.hid (And.intro bl hlow)
  clear hY9 bl hlow c00 c01 c10 c11 c20 c21 y0 y1 y2
  go_wp2_with fail
  go_loopw [10, 11] (fun v i wr => ∃ (k : Nat), k ≤ cs.length ∧ i = .int .i64 k ∧ Below Y.heap.size Y wr ∧ OwnL tRg 40 wr Y.heap.size Y.heap.size v ((cs.take k).filter fun r => decide (r.1 ≤ r.2))) (fun _ i _ => cs.length - (intOf i).toNat)
  case atStart => exact ⟨0, by omega, rfl, Below.refl _ _, OwnL.nil⟩
  case round =>
    obtain ⟨k, hk, rfl, hlow, hown⟩ := hrel
    generalize wr = wA at *
    have hzA := hlow.size
    have bl := HY.out.1.below hlow
    have lg := bl.lt
    obtain ⟨Ao, co, rfl, hco, hmo⟩ := hown.form
    have hco' : co ≤ 9223372036854775807 := by unfold maxLen at hmo; omega
    have hol : ((cs.take k).filter fun r => decide (r.1 ≤ r.2)).length ≤ 2 := Nat.le_trans (List.length_filter_le _ _) (by rw [List.length_take]; omega)
    by_cases hlt : k < cs.length
    · obtain ⟨r, hr⟩ : ∃ r, cs[k]? = some r := ⟨_, List.getElem?_eq_getElem hlt⟩
      have hf := HF.out r (by rw [HC.out]; exact List.mem_of_getElem? hr)
      obtain ⟨p0, p1⟩ := pairsV_at hr
      have e0 : wA.cell? ⟨g, k * 2, none⟩ = some (.int .i64 r.1) := by rw [bl.cell]; simpa using p0
      have e1 : wA.cell? ⟨g, k * 2 + 1, none⟩ = some (.int .i64 r.2) := by rw [bl.cell]; simpa using p1
      have hst : (cs.take (k + 1)).filter (fun r => decide (r.1 ≤ r.2)) = (cs.take k).filter (fun r => decide (r.1 ≤ r.2)) ++ if r.1 ≤ r.2 then [r] else [] := by
        rw [List.take_add_one, hr, List.filter_append]
        congr 1
        by_cases h : r.1 ≤ r.2 <;> simp [h]
      have hkl : (k : Int) < (cs.length : Int) := by omega
      have HA := Lib.hid (And.intro hlow (And.intro hown (And.intro hst hf)))
      clear hlow hown hst hf hr p0 p1 bl hmo
      obtain ⟨ra, rb⟩ := r
      simp only at e0 e1
      generalize (cs.take k).filter (fun r => decide (r.1 ≤ r.2)) = qs at *
      by_cases hle : ra ≤ rb
      · have Hst := Lib.hid (show (cs.take (k + 1)).filter (fun r => decide (r.1 ≤ r.2)) = qs ++ [(ra, rb)] by rw [HA.out.2.2.1]; simp [hle])
        go_upto_region 21 with (fail)
        refine wp_region_ext wA (by kernel_rfl) (by kernel_rfl) ?_
        repeat (go_big_quiet_step (fail))
        refine wpQuiet_nil (fun v => ?_)
        refine forget_then (fun Z => Below wA.heap.size wA Z) (below_ext _ _) ?_
        intro Z hZ
        have hZz := hZ.size
        have q0 := (hZ.cell (p := ⟨g, k * 2, none⟩) lg).trans e0
        have q1 := (hZ.cell (p := ⟨g, k * 2 + 1, none⟩) lg).trans e1
        have lz : g < Z.heap.size := by omega
        have HZ := Lib.hid hZ
        clear hZ e0 e1 lg
        go_wp2_with (at_builtin; refine list_appendL (T := tRg) (base := Y.heap.size) (B := Y.heap.size) (qs := qs) (v := .slice Ao qs.length co) rfl _ _ _ rfl 16 Try.underlying113 (by kernel_rfl) (by decide) one_rg rfl (HA.out.2.1.below (HZ.out.trans ((below_self Z _).mono hZz)) hzA) (some ⟨Z.heap.size, 0, none⟩) 1 1 [(ra, rb)] [[.int .i64 ra, .int .i64 rb]] rfl rfl rfl (fun i a1 a2 => by obtain rfl : i = 0 := (by simp at a1; omega); exact rg_rd _ _ HA.out.2.2.2) (by have := lies_bk (Bk.new Z #[.int .i64 ra, .int .i64 rb] 40) 1; simpa using this) (by unfold maxLen; omega) (by omega) (by simp; omega) (Nat.le_refl _) ?_; intro A8 c8 w8 hown8 hbel8 hg8 hd8; have H8 := Lib.hid (And.intro hown8 hbel8); clear hown8 hbel8 hg8 hd8)
        go_roundw
        case rel => exact ⟨k + 1, by omega, by go_num, HA.out.1.trans ((HZ.out.mono hzA).trans (((below_self Z _).mono (by omega)).trans H8.out.2)), by rw [Hst.out]; exact H8.out.1⟩
        case measure => simp [intOf]; omega
      · have Hst := Lib.hid (show (cs.take (k + 1)).filter (fun r => decide (r.1 ≤ r.2)) = qs by rw [HA.out.2.2.1]; simp [hle])
        go_wp2_with fail
        refine wp_region_ext wA (by kernel_rfl) (by kernel_rfl) ?_
        repeat (go_big_quiet_step (fail))
        refine wpQuiet_nil (fun v => ?_)
        go_wp2_with fail
        go_roundw
        case rel => exact ⟨k + 1, by omega, by go_num, HA.out.1.trans ((below_ext wA v).mono hzA), by rw [Hst.out]; exact HA.out.2.1.below (below_ext wA v) hzA⟩
        case measure => simp [intOf]; omega
    · obtain rfl : k = cs.length := by omega
      rw [List.take_length] at hown hco hol ⊢
      have HA := Lib.hid (And.intro hlow hown)
      clear hlow hown hmo
      go_wp2_with fail
      go_ret
      exact ⟨Ao, co, rfl, HA.out.2.elems (by omega) (Nat.le_refl _), fun g off s h => Nat.le_trans (Nat.le_trans HX.out.size HY.out.2.size) (HA.out.2.lt g (by rw [h]; rfl)).1, Below.trans0 HX.out (Below.trans0 HY.out.2 HA.out.1)⟩
end Go.Proofs.Ytecjhniomjmocaa
