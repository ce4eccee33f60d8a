/- Layer 9 (sight): the walks of the reference's View and Few. -/
import Derived.Test.YtbphalaajhnnjaaSightG
import Derived.Test.YtbphalaajhnnjaaTail
namespace Go.Proofs.Ytbphalaajhnnjaa
open Go.RowKit
set_option linter.unusedVariables false

theorem elems_new_drew (W : World) (b t : Nat) (zs : List Int) (hb : W.heap.size = b) (hz : ∀ z ∈ zs, fits z) :
    Elems tInt (W.alloc (.cells (zs.map (Value.int .i64)).toArray t)).drew (b + 1) (some ⟨b, 0, none⟩) zs := elems_new W b t zs hb hz

set_option maxRecDepth 100000 in
set_option maxHeartbeats 1000000 in
theorem rview_out (nm : ByteArray) (sx sy : Int) (LA : Option Addr) (ll lc : Nat) (level px py : Int) (w : World) (h : level < 0 ∨ ll ≤ level) (hl : ll ≤ 9223372036854775807) :
    Calls Try.prog 14 #[.agg #[.string nm, .int .i64 sx, .int .i64 sy, .slice LA ll lc], .int .i64 level, .agg #[.int .i64 px, .int .i64 py]] w
      fun e w' => e = .returned (.int .i64 3) ∧ Below w.heap.size w w' := by
  by_cases h0 : level < 0
  · clear h
    have hd : decide (level < 0) = true := by simpa using h0
    go_enter Try.func14, Try.ntmps14
    go_wp2_with fail
    go_quiet (fail)
    go_wp2
    go_ret
    exact ⟨rfl, below_drewN (((Below.refl _ _).alloc (by simp) _).alloc (by simp) _) _⟩
  · have h' : (ll : Int) ≤ level := by omega
    have hd : decide (level < 0) = false := by simpa using h0
    have hd' : decide ((ll : Int) ≤ level) = true := by simpa using h'
    clear h
    go_enter Try.func14, Try.ntmps14
    go_wp2_with fail
    go_quiet (fail)
    go_wp2
    go_ret
    exact ⟨rfl, below_drewN (((Below.refl _ _).alloc (by simp) _).alloc (by simp) _) _⟩

set_option maxRecDepth 100000 in
set_option maxHeartbeats 1000000 in
theorem rview_bad (nm : ByteArray) (sx sy : Int) (LA : Option Addr) (ls : List Lv) (lc : Nat) (k : Nat) (px py : Int) (w : World) (B : Nat) (hls : Elems tLevel w B LA ls) (hB : B ≤ w.heap.size) (hl : ls.length ≤ 9223372036854775807) (hk : k < ls.length)
    (hsx : fits sx) (hsy : fits sy) (hpx : fits px) (hpy : fits py) (hbad : ∀ l, ls[k]? = some l → Hid ([px, py, sx, sy, l.2.1].all coordB = false)) :
    Calls Try.prog 14 #[.agg #[.string nm, .int .i64 sx, .int .i64 sy, .slice LA ls.length lc], .int .i64 k, .agg #[.int .i64 px, .int .i64 py]] w
      fun e w' => e = .returned (.int .i64 3) ∧ Below w.heap.size w w' := by
  obtain ⟨b, off, lnm, ht, at_, h1, h2, h3, h4, PA, pc, ps, rfl, hb, hx, ⟨c0, c1, c2, c3, c4, c5, c6, c7⟩, fht, fat, hnm, hp1, hp2, hps⟩ := pick_level hls hk
  have Hbad := hbad _ hx.out
  simp only at Hbad
  have hbw : b < w.heap.size := by omega
  have hbw1 : b < w.heap.size + 1 := by omega
  have hbw2 : b < w.heap.size + 1 + 1 := by omega
  have hz : Hid (∀ z ∈ [px, py, sx, sy, ht], fits z) := by
    intro z hz
    simp only [List.mem_cons, List.not_mem_nil, or_false] at hz
    rcases hz with rfl | rfl | rfl | rfl | rfl <;> assumption
  clear hbad hls hps hpx hpy hsx hsy fht fat
  have hk0 : (0 : Int) ≤ k := by omega
  have hk1 : (k : Int) < ls.length := by omega
  have hd : decide ((k : Int) < 0) = false := by simp
  have hd' : decide ((ls.length : Int) ≤ (k : Int)) = false := by simpa using hk
  have hd2 : decide (ls.length ≤ k) = false := by simpa using hk
  go_enter Try.func14, Try.ntmps14
  go_wp2_with fail
  refine wp_region_tail 26 (by kernel_rfl) (by kernel_rfl) ?_
  simp only [List.take_succ_cons, List.take_zero, List.drop_succ_cons, List.drop_zero]
  repeat (go_big_quiet_step (fail))
  refine wpQuiet_nil ?_
  go_wp2_with fail
  refine (ok_is false _ _ _ 5 5 [px, py, sx, sy, ht] (elems_new_drew _ _ 3 _ (by simp) hz.out) rfl (by omega) Hbad).mono ?_
  rintro e w' ⟨rfl, rfl⟩
  go_wp2
  go_ret
  exact ⟨rfl, ((((Below.refl _ _).alloc (by simp) _).alloc (by simp) _).alloc (by simp; try omega) _).drew⟩

set_option maxRecDepth 100000 in
set_option maxHeartbeats 2000000 in
theorem rview_main (nm : ByteArray) (sx sy : Int) (LA : Option Addr) (ls : List Lv) (lc : Nat) (k : Nat) (px py : Int) (w : World) (B : Nat) (hls : Elems tLevel w B LA ls) (hB : B ≤ w.heap.size) (hl : ls.length ≤ 9223372036854775807) (hk : k < ls.length)
    (hgood : ∀ l, ls[k]? = some l → [px, py, sx, sy, l.2.1].all coordB = true) (hfew : ∀ l, ls[k]? = some l → l.2.2.2.2.2.1.length ≤ 1000) :
    Calls Try.prog 14 #[.agg #[.string nm, .int .i64 sx, .int .i64 sy, .slice LA ls.length lc], .int .i64 k, .agg #[.int .i64 px, .int .i64 py]] w
      fun e w' => (∀ l, ls[k]? = some l → e = .returned (.int .i64 (min (viewN px py sx sy l.2.1 l.2.2.2.2.2.1) 3))) ∧ Below w.heap.size w w' := by
  obtain ⟨b, off, lnm, ht, at_, h1, h2, h3, h4, PA, pc, ps, rfl, hb, hx, ⟨c0, c1, c2, c3, c4, c5, c6, c7⟩, fht, fat, hnm, hp1, hp2, hps⟩ := pick_level hls hk
  have hg := hgood _ hx.out
  have hps1 : ps.length ≤ 1000 := hfew _ hx.out
  simp only at hg
  have hbw : b < w.heap.size := by omega
  have hbw1 : b < w.heap.size + 1 := by omega
  have hbw2 : b < w.heap.size + 1 + 1 := by omega
  obtain ⟨⟨g1, g1'⟩, ⟨g2, g2'⟩, ⟨g3, g3'⟩, ⟨g4, g4'⟩, ⟨g5, g5'⟩⟩ : (0 ≤ px ∧ px ≤ 10000) ∧ (0 ≤ py ∧ py ≤ 10000) ∧ (0 ≤ sx ∧ sx ≤ 10000) ∧ (0 ≤ sy ∧ sy ≤ 10000) ∧ (0 ≤ ht ∧ ht ≤ 10000) := by
    simp [coordB] at hg
    omega
  have Hg := Lib.hid hg
  have hz : Hid (∀ z ∈ [px, py, sx, sy, ht], fits z) := by
    intro z hz
    simp only [List.mem_cons, List.not_mem_nil, or_false] at hz
    unfold fits
    rcases hz with rfl | rfl | rfl | rfl | rfl <;> omega
  refine Calls.mono (R := fun e w' => e = .returned (.int .i64 (min (viewN px py sx sy ht ps) 3)) ∧ Below w.heap.size w w') ?_ (fun e w' ⟨he, hw⟩ => ⟨fun l hl => by rw [hx.out] at hl; injection hl with hl; subst hl; exact he, hw⟩)
  clear hgood hls hg hfew
  have hk0 : (0 : Int) ≤ k := by omega
  have hk1 : (k : Int) < ls.length := by omega
  have hd : decide ((k : Int) < 0) = false := by simp
  have hd' : decide ((ls.length : Int) ≤ (k : Int)) = false := by simpa using hk
  have hd2 : decide (ls.length ≤ k) = false := by simpa using hk
  obtain ⟨d1, d2⟩ := sq_le (a := px - sx) (by omega) (by omega)
  obtain ⟨d3, d4⟩ := sq_le (a := py - sy) (by omega) (by omega)
  obtain ⟨d5, d6⟩ := sq_le (a := ht) (by omega) (by omega)
  go_enter Try.func14, Try.ntmps14
  go_wp2_with fail
  refine wp_region_tail 26 (by kernel_rfl) (by kernel_rfl) ?_
  simp only [List.take_succ_cons, List.take_zero, List.drop_succ_cons, List.drop_zero]
  repeat (go_big_quiet_step (fail))
  refine wpQuiet_nil ?_
  go_wp2_with fail
  refine (ok_is true _ _ _ 5 5 [px, py, sx, sy, ht] (elems_new_drew _ _ 3 _ (by simp) hz.out) rfl (by omega) Hg).mono ?_
  rintro e w' ⟨rfl, rfl⟩
  have hv : viewN px py sx sy ht ps = (if 1000000 < (px - sx) * (px - sx) + (py - sy) * (py - sy) + ht * ht then 1 else 0) + (if 9000000 < (px - sx) * (px - sx) + (py - sy) * (py - sy) + ht * ht then 1 else 0) + ps.countP (hitB px py sx sy) := rfl
  have HV := Lib.hid hv
  clear hv
  by_cases D1 : 1000000 < (px - sx) * (px - sx) + (py - sy) * (py - sy) + ht * ht <;> by_cases D2 : 9000000 < (px - sx) * (px - sx) + (py - sy) * (py - sy) + ht * ht
  all_goals try (exfalso; omega)
  all_goals (obtain ⟨n0, hn0⟩ : ∃ n0 : Nat, n0 = (if 1000000 < (px - sx) * (px - sx) + (py - sy) * (py - sy) + ht * ht then 1 else 0) + (if 9000000 < (px - sx) * (px - sx) + (py - sy) * (py - sy) + ht * ht then 1 else 0) := ⟨_, rfl⟩)
  all_goals rw [← hn0] at HV
  all_goals simp only [D1, D2, if_true, if_false] at hn0
  all_goals have Hn0 := Lib.hid hn0
  all_goals have hn2 : n0 ≤ 2 := by omega
  all_goals clear hn0
  all_goals go_wp2_with fail
  all_goals
    go_loopw [11, 12] (fun v i wr => ∃ j c : Nat, j ≤ ps.length ∧ i = .int .i64 j ∧ v = .int .i64 c ∧ c ≤ j + 2 ∧ viewN px py sx sy ht ps = c + (ps.drop j).countP (hitB px py sx sy) ∧
        Two wr (w.heap.size + 1) px py ∧ wr.cell? ⟨w.heap.size, 1, none⟩ = some (.int .i64 sx) ∧ wr.cell? ⟨w.heap.size, 2, none⟩ = some (.int .i64 sy) ∧ wr.cell? ⟨w.heap.size + 1 + 1 + 1, 5, none⟩ = some (.slice PA ps.length pc) ∧ Below w.heap.size w wr ∧ w.heap.size + 4 ≤ wr.heap.size) (fun _ i _ => ps.length - (intOf i).toNat)
    case atStart =>
      refine ⟨0, n0, by omega, rfl, val_int (by rw [Hn0.out]; rfl), by omega, by rw [HV.out]; simp, ?_, ?_, ?_, ?_, ?_, ?_⟩
      · simp [Two, go_sem]
      · simp [go_sem]
      · simp [go_sem]
      · simp [go_sem]
      · exact (((((Below.refl _ _).alloc (by simp) _).alloc (by simp) _).alloc (by simp; try omega) _).alloc (by simp; try omega) _).drew
      · simp
    case round =>
      obtain ⟨j, c, hj, rfl, rfl, hcj, hcount, ⟨t1, t2, t3⟩, k2, k3, k5, hb', hsz⟩ := hrel
      have Hc := Lib.hid hcount
      clear hcount HV Hn0 D1 D2 d1 d2 d3 d4 d5 d6
      by_cases hlt : j < ps.length
      · have hps' := hps.keep (hb'.mono hB) (Nat.le_refl _)
        obtain ⟨bb, oo, x, y, x2, y2, rfl, hbb, hd', _, ⟨p0, p1, p2, p3⟩, f1, f2, f3, f4⟩ := pick_box hps' hlt
        have hzz : Hid (∀ z ∈ [px, py, sx, sy, x, y, x2, y2], fits z) := by
          intro z hz'
          simp only [List.mem_cons, List.not_mem_nil, or_false] at hz'
          rcases hz' with rfl | rfl | rfl | rfl | rfl | rfl | rfl | rfl <;> first | assumption | (unfold fits; omega)
        clear hps hps' f1 f2 f3 f4 c0 c1 c2 c3 c4 c5 c6 c7 hx fht fat hnm hz Hg
        have hbr : bb < wr.heap.size := by omega
        have s0 : w.heap.size < wr.heap.size := by omega
        have j0 : (0 : Int) ≤ j := by omega
        have j1 : (j : Int) < ps.length := by omega
        go_wp2_with fail
        refine wp_region_tail 8 (by kernel_rfl) (by kernel_rfl) ?_
        simp only [List.take_succ_cons, List.take_zero, List.drop_succ_cons, List.drop_zero]
        repeat (go_big_quiet_step (fail))
        refine wpQuiet_nil ?_
        go_wp2_with fail
        obtain ⟨r, hr⟩ : ∃ r, crossB px py sx sy x y x2 y2 = r := ⟨_, rfl⟩
        refine (rcrosses_any r px py sx sy x y x2 y2 _ hzz (Lib.hid hr)).mono ?_
        rintro e w1 ⟨rfl, hb1⟩
        have Hr := Lib.hid hr
        clear hr p0 p1 p2 p3
        have hbb2 : Below wr.heap.size wr w1 := ((Below.refl _ _).drew).trans (hb1.mono (Nat.le_refl _))
        obtain ⟨q1, q2⟩ := old_cells hbb2
        have z1 := hbb2.size
        have k2' := (q1 w.heap.size 1 (by omega)).trans k2
        have k3' := (q1 w.heap.size 2 (by omega)).trans k3
        have k5' := (q1 (w.heap.size + 1 + 1 + 1) 5 (by omega)).trans k5
        have t2' := (q1 (w.heap.size + 1) 0 (by omega)).trans t2
        have t3' := (q1 (w.heap.size + 1) 1 (by omega)).trans t3
        have hb2 := hb'.trans (hbb2.mono hb'.size)
        have hN : hitB px py sx sy (x, y, x2, y2) = r := Hr.out
        have HN := Lib.hid hN
        clear q1 q2 hb1 hbb2 k2 k3 k5 t2 t3 hb' hN
        cases r
        · go_wp2
          go_roundw
          case rel => exact ⟨j + 1, c, by omega, by go_num, rfl, by omega, by rw [Hc.out, hd'.out, List.countP_cons, HN.out]; simp, ⟨by omega, t2', t3'⟩, k2', k3', k5', hb2, by omega⟩
          case measure => simp [intOf]; omega
        · go_wp2
          go_roundw
          case rel => exact ⟨j + 1, c + 1, by omega, by go_num, by go_num, by omega, by rw [Hc.out, hd'.out, List.countP_cons, HN.out]; simp; omega, ⟨by omega, t2', t3'⟩, k2', k3', k5', hb2, by omega⟩
          case measure => simp [intOf]; omega
      · have Hfin : Hid (viewN px py sx sy ht ps = c) := by
          show viewN px py sx sy ht ps = c
          rw [Hc.out, List.drop_eq_nil_of_le (by omega)]; rfl
        go_wp2
        all_goals
          go_ret
          refine ⟨ret_int ?_, hb'⟩
          rw [Hfin.out]
          omega
end Go.Proofs.Ytbphalaajhnnjaa
