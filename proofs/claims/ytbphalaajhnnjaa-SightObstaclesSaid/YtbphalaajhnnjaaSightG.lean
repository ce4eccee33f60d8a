/- Layer 9 (sight): the walk of View. -/
import Derived.Test.YtbphalaajhnnjaaSightF
import Derived.Deep.QuietTactic
import Derived.BigQuiet
import Derived.RegionTactic
namespace Go.Proofs.Ytbphalaajhnnjaa
open Go.RowKit
set_option linter.unusedVariables false

def distZ (px py sx sy ht : Int) : Int := (px - sx) * (px - sx) + (py - sy) * (py - sy) + ht * ht
def hitB (px py sx sy : Int) (b : Bx) : Bool := crossB px py sx sy b.1 b.2.1 b.2.2.1 b.2.2.2
def viewN (px py sx sy ht : Int) (ps : List Bx) : Nat := (if 1000000 < distZ px py sx sy ht then 1 else 0) + (if 9000000 < distZ px py sx sy ht then 1 else 0) + ps.countP (hitB px py sx sy)
def viewB (px py sx sy : Int) (l : Lv) : Int := if [px, py, sx, sy, l.2.1].all coordB then min (viewN px py sx sy l.2.1 l.2.2.2.2.2.1) 3 else 3
def viewZ (h : Hl) (level : Int) (p : Pt) : Int := if level < 0 then 3 else match h.2.2[level.toNat]? with | none => 3 | some l => viewB p.1 p.2 h.2.1.1 h.2.1.2 l

theorem fits_int {w : World} {B : Nat} {cs : List Value} {x : Int} (h : tInt.rd w B cs x) : cs = [.int .i64 x] ∧ fits x := h

/-- A level of a hall, cell by cell. -/
theorem pick_level {w : World} {B : Nat} {A : Option Addr} {ls : List Lv} (h : Elems tLevel w B A ls) {k : Nat} (hk : k < ls.length) :
    ∃ (b off : Nat) (nm : ByteArray) (ht at_ : Int) (hb ha hi hd : Hd) (PA : Option Addr) (pc : Nat) (ps : List Bx), A = some ⟨b, off, none⟩ ∧ b < B ∧ Hid (ls[k]? = some (nm, ht, hb, ha, hi, ps, hd, at_)) ∧
      (w.cell? ⟨b, off + k * 8, none⟩ = some (.string nm) ∧ w.cell? ⟨b, off + k * 8 + 1, none⟩ = some (.int .i64 ht) ∧ w.cell? ⟨b, off + k * 8 + 2, none⟩ = some (.slice hb.1 hb.2.1 hb.2.2) ∧
        w.cell? ⟨b, off + k * 8 + 3, none⟩ = some (.slice ha.1 ha.2.1 ha.2.2) ∧ w.cell? ⟨b, off + k * 8 + 4, none⟩ = some (.slice hi.1 hi.2.1 hi.2.2) ∧ w.cell? ⟨b, off + k * 8 + 5, none⟩ = some (.slice PA ps.length pc) ∧
        w.cell? ⟨b, off + k * 8 + 6, none⟩ = some (.slice hd.1 hd.2.1 hd.2.2) ∧ w.cell? ⟨b, off + k * 8 + 7, none⟩ = some (.int .i64 at_)) ∧
      fits ht ∧ fits at_ ∧ nm.size ≤ maxLen ∧ ps.length ≤ pc ∧ pc ≤ maxLen ∧ Elems tBox w B PA ps := by
  obtain ⟨b, off, l, cs, hA, hb, _, hx, _, hr, hc⟩ := h.pick hk
  obtain ⟨nm, ht, h1, h2, h3, ps, h4, at_⟩ := l
  obtain ⟨c1, r1, rfl, ⟨rfl, hnm⟩, c2, r2, rfl, ⟨rfl, hht⟩, c3, r3, rfl, rfl, c4, r4, rfl, rfl, c5, r5, rfl, rfl, c6, r6, rfl, ⟨PA, pc, rfl, hp1, hp2, hp3⟩, c7, r7, rfl, rfl, rfl, hat⟩ := hr
  exact ⟨b, off, nm, ht, at_, h1, h2, h3, h4, PA, pc, ps, hA, hb, hx, ⟨hc 0 _ rfl, hc 1 _ rfl, hc 2 _ rfl, hc 3 _ rfl, hc 4 _ rfl, hc 5 _ rfl, hc 6 _ rfl, hc 7 _ rfl⟩, hht, hat, hnm, hp1, hp2, hp3⟩

/-- A rectangle of a slice, cell by cell. -/
theorem pick_box {w : World} {B : Nat} {A : Option Addr} {ps : List Bx} (h : Elems tBox w B A ps) {k : Nat} (hk : k < ps.length) :
    ∃ (b off : Nat) (x y x2 y2 : Int), A = some ⟨b, off, none⟩ ∧ b < B ∧ Hid (ps.drop k = (x, y, x2, y2) :: ps.drop (k + 1)) ∧ Hid (ps[k]? = some (x, y, x2, y2)) ∧
      (w.cell? ⟨b, off + k * 4, none⟩ = some (.int .i64 x) ∧ w.cell? ⟨b, off + k * 4 + 1, none⟩ = some (.int .i64 y) ∧ w.cell? ⟨b, off + k * 4 + 2, none⟩ = some (.int .i64 x2) ∧ w.cell? ⟨b, off + k * 4 + 3, none⟩ = some (.int .i64 y2)) ∧
      fits x ∧ fits y ∧ fits x2 ∧ fits y2 := by
  obtain ⟨b, off, l, cs, hA, hb, hd, hx, _, hr, hc⟩ := h.pick hk
  obtain ⟨x, y, x2, y2⟩ := l
  obtain ⟨c1, r1, rfl, ⟨rfl, g1⟩, c2, r2, rfl, ⟨rfl, g2⟩, c3, r3, rfl, ⟨rfl, g3⟩, rfl, g4⟩ := hr
  exact ⟨b, off, x, y, x2, y2, hA, hb, hd, hx, ⟨hc 0 _ rfl, hc 1 _ rfl, hc 2 _ rfl, hc 3 _ rfl⟩, g1, g2, g3, g4⟩

set_option maxRecDepth 100000 in
set_option maxHeartbeats 1000000 in
theorem view_out (nm : ByteArray) (sx sy : Int) (LA : Option Addr) (ll lc : Nat) (level px py : Int) (w : World) (h : level < 0 ∨ ll ≤ level) (hl : ll ≤ 9223372036854775807) :
    Calls Try.prog 13 #[.agg #[.string nm, .int .i64 sx, .int .i64 sy, .slice LA ll lc], .int .i64 level, .agg #[.int .i64 px, .int .i64 py]] w
      fun e w' => e = .returned (.int .i64 3) ∧ Below w.heap.size w w' := by
  by_cases h0 : level < 0
  · clear h
    go_enter Try.func13, Try.ntmps13
    go_wp2
    go_ret
    exact ⟨rfl, ((Below.refl _ _).alloc (by simp) _).alloc (by simp) _⟩
  · have h' : (ll : Int) ≤ level := by omega
    clear h
    go_enter Try.func13, Try.ntmps13
    go_wp2
    go_ret
    exact ⟨rfl, ((Below.refl _ _).alloc (by simp) _).alloc (by simp) _⟩

set_option maxRecDepth 100000 in
set_option maxHeartbeats 1000000 in
theorem view_bad (nm : ByteArray) (sx sy : Int) (LA : Option Addr) (ls : List Lv) (lc : Nat) (k : Nat) (px py : Int) (w : World) (B : Nat) (hls : Elems tLevel w B LA ls) (hB : B ≤ w.heap.size) (hl : ls.length ≤ 9223372036854775807) (hk : k < ls.length)
    (hsx : fits sx) (hsy : fits sy) (hpx : fits px) (hpy : fits py) (hbad : ∀ l, ls[k]? = some l → Hid ([px, py, sx, sy, l.2.1].all coordB = false)) :
    Calls Try.prog 13 #[.agg #[.string nm, .int .i64 sx, .int .i64 sy, .slice LA ls.length lc], .int .i64 k, .agg #[.int .i64 px, .int .i64 py]] w
      fun e w' => e = .returned (.int .i64 3) ∧ Below w.heap.size w w' := by
  obtain ⟨b, off, lnm, ht, at_, h1, h2, h3, h4, PA, pc, ps, rfl, hb, hx, ⟨c0, c1, c2, c3, c4, c5, c6, c7⟩, fht, fat, hnm, hp1, hp2, hps⟩ := pick_level hls hk
  have Hbad := hbad _ hx.out
  simp only at Hbad
  have hbw : b < w.heap.size := by omega
  have hz : Hid (∀ z ∈ [px, py, sx, sy, ht], fits z) := by
    intro z hz
    simp only [List.mem_cons, List.not_mem_nil, or_false] at hz
    rcases hz with rfl | rfl | rfl | rfl | rfl <;> assumption
  clear hbad hls hps hpx hpy hsx hsy fht fat
  have hk0 : (0 : Int) ≤ k := by omega
  have hk1 : (k : Int) < ls.length := by omega
  go_enter Try.func13, Try.ntmps13
  go_wp2_with fail
  refine (coordinates_is false _ _ _ 5 5 [px, py, sx, sy, ht] (elems_new _ _ 3 _ (by simp) hz.out) rfl (by omega) Hbad).mono ?_
  rintro e w' ⟨rfl, rfl⟩
  go_wp2
  go_ret
  exact ⟨rfl, ((((Below.refl _ _).alloc (by simp) _).alloc (by simp) _).alloc (by simp; omega) _).alloc (by simp; omega) _⟩

theorem coord_out {a : Int} (h : coordB a = true) : 0 ≤ a ∧ a ≤ 10000 := by unfold coordB at h; simpa using h

theorem sq_le {a : Int} (h : -10000 ≤ a) (h' : a ≤ 10000) : 0 ≤ a * a ∧ a * a ≤ 100000000 := by
  refine ⟨?_, ?_⟩
  · rcases Int.le_total 0 a with h0 | h0
    · exact Int.mul_nonneg h0 h0
    · exact Int.mul_nonneg_of_nonpos_of_nonpos h0 h0
  · rcases Int.le_total 0 a with h0 | h0
    · exact Int.mul_le_mul h' h' h0 (by omega)
    · have : (-a) * (-a) ≤ 10000 * 10000 := Int.mul_le_mul (by omega) (by omega) (by omega) (by omega)
      rw [Int.neg_mul_neg] at this
      exact this

set_option maxRecDepth 100000 in
set_option maxHeartbeats 2000000 in
theorem view_main (nm : ByteArray) (sx sy : Int) (LA : Option Addr) (ls : List Lv) (lc : Nat) (k : Nat) (px py : Int) (w : World) (B : Nat) (hls : Elems tLevel w B LA ls) (hB : B ≤ w.heap.size) (hl : ls.length ≤ 9223372036854775807) (hk : k < ls.length)
    (hgood : ∀ l, ls[k]? = some l → [px, py, sx, sy, l.2.1].all coordB = true) (hfew : ∀ l, ls[k]? = some l → l.2.2.2.2.2.1.length ≤ 1000) :
    Calls Try.prog 13 #[.agg #[.string nm, .int .i64 sx, .int .i64 sy, .slice LA ls.length lc], .int .i64 k, .agg #[.int .i64 px, .int .i64 py]] w
      fun e w' => (∀ l, ls[k]? = some l → e = .returned (.int .i64 (min (viewN px py sx sy l.2.1 l.2.2.2.2.2.1) 3))) ∧ Below w.heap.size w w' := by
  obtain ⟨b, off, lnm, ht, at_, h1, h2, h3, h4, PA, pc, ps, rfl, hb, hx, ⟨c0, c1, c2, c3, c4, c5, c6, c7⟩, fht, fat, hnm, hp1, hp2, hps⟩ := pick_level hls hk
  have hg := hgood _ hx.out
  have hps1 : ps.length ≤ 1000 := hfew _ hx.out
  simp only at hg
  have hbw : b < w.heap.size := by omega
  obtain ⟨⟨g1, g1'⟩, ⟨g2, g2'⟩, ⟨g3, g3'⟩, ⟨g4, g4'⟩, ⟨g5, g5'⟩⟩ : (0 ≤ px ∧ px ≤ 10000) ∧ (0 ≤ py ∧ py ≤ 10000) ∧ (0 ≤ sx ∧ sx ≤ 10000) ∧ (0 ≤ sy ∧ sy ≤ 10000) ∧ (0 ≤ ht ∧ ht ≤ 10000) := by
    simp [coordB] at hg
    omega
  have Hg := Lib.hid hg
  have hz : Hid (∀ z ∈ [px, py, sx, sy, ht], fits z) := by
    intro z hz
    simp only [List.mem_cons, List.not_mem_nil, or_false] at hz
    unfold fits
    rcases hz with rfl | rfl | rfl | rfl | rfl <;> omega
  refine Calls.mono (R := fun e w' => e = .returned (.int .i64 (min (viewN px py sx sy ht ps) 3)) ∧ Below w.heap.size w w') ?_ (fun e w' ⟨he, hw⟩ => ⟨fun l hl => by rw [hx.out] at hl; injection hl with hl; subst hl; exact he, hw⟩)
  clear hgood hls hg hfew
  have hk0 : (0 : Int) ≤ k := by omega
  have hk1 : (k : Int) < ls.length := by omega
  obtain ⟨d1, d2⟩ := sq_le (a := px - sx) (by omega) (by omega)
  obtain ⟨d3, d4⟩ := sq_le (a := py - sy) (by omega) (by omega)
  obtain ⟨d5, d6⟩ := sq_le (a := ht) (by omega) (by omega)
  go_enter Try.func13, Try.ntmps13
  go_wp2_with fail
  refine (coordinates_is true _ _ _ 5 5 [px, py, sx, sy, ht] (elems_new _ _ 3 _ (by simp) hz.out) rfl (by omega) Hg).mono ?_
  rintro e w' ⟨rfl, rfl⟩
  go_wp2_with fail
  go_quiet (fail)
  go_wp2_with fail
  refine (worse_any _ _ 0 _ (by simp [go_sem]) (by simp [go_sem]) (by omega) (by omega)).mono ?_
  rintro e w1 ⟨rfl, rfl⟩
  obtain ⟨r1, hr1⟩ : ∃ r, r = bit (decide (1000000 < (px - sx) * (px - sx) + (py - sy) * (py - sy) + ht * ht)) := ⟨_, rfl⟩
  have b1 := bit_le (decide (1000000 < (px - sx) * (px - sx) + (py - sy) * (py - sy) + ht * ht))
  rw [← hr1] at b1 ⊢
  have Hr1 := Lib.hid hr1
  clear hr1
  go_wp2_with fail
  refine (worse_any _ _ (0 + r1) _ (by simp [go_sem]) (by simp [go_sem]) (by omega) (by omega)).mono ?_
  rintro e w1 ⟨rfl, rfl⟩
  obtain ⟨r2, hr2⟩ : ∃ r, r = bit (decide (9000000 < (px - sx) * (px - sx) + (py - sy) * (py - sy) + ht * ht)) := ⟨_, rfl⟩
  have b2 := bit_le (decide (9000000 < (px - sx) * (px - sx) + (py - sy) * (py - sy) + ht * ht))
  rw [← hr2] at b2 ⊢
  have Hr2 := Lib.hid hr2
  clear hr2 d1 d2 d3 d4 d5 d6
  go_wp2_with fail
  have hv : viewN px py sx sy ht ps = (if 1000000 < (px - sx) * (px - sx) + (py - sy) * (py - sy) + ht * ht then 1 else 0) + (if 9000000 < (px - sx) * (px - sx) + (py - sy) * (py - sy) + ht * ht then 1 else 0) + ps.countP (hitB px py sx sy) := rfl
  have e1 : r1 = ((if 1000000 < (px - sx) * (px - sx) + (py - sy) * (py - sy) + ht * ht then 1 else 0 : Nat) : Int) := by
    rw [Hr1.out]; unfold bit; simp only [decide_eq_true_eq]; split <;> rfl
  have e2 : r2 = ((if 9000000 < (px - sx) * (px - sx) + (py - sy) * (py - sy) + ht * ht then 1 else 0 : Nat) : Int) := by
    rw [Hr2.out]; unfold bit; simp only [decide_eq_true_eq]; split <;> rfl
  generalize (if 1000000 < (px - sx) * (px - sx) + (py - sy) * (py - sy) + ht * ht then 1 else 0 : Nat) = n1 at hv e1
  generalize (if 9000000 < (px - sx) * (px - sx) + (py - sy) * (py - sy) + ht * ht then 1 else 0 : Nat) = n2 at hv e2
  have HV := Lib.hid hv
  have E1 := Lib.hid e1
  have E2 := Lib.hid e2
  clear hv e1 e2 Hr1 Hr2
  go_loopw [81] (fun i wr => ∃ j c : Nat, j ≤ ps.length ∧ i = .int .i64 j ∧ c ≤ j + 2 ∧ viewN px py sx sy ht ps = c + (ps.drop j).countP (hitB px py sx sy) ∧ wr.cell? ⟨w.heap.size + 1 + 1 + 1 + 1, 0, none⟩ = some (.int .i64 c) ∧ wr.frozen? ⟨w.heap.size + 1 + 1 + 1 + 1, 0, none⟩ = false ∧
      Two wr (w.heap.size + 1) px py ∧ wr.cell? ⟨w.heap.size, 1, none⟩ = some (.int .i64 sx) ∧ wr.cell? ⟨w.heap.size, 2, none⟩ = some (.int .i64 sy) ∧ Below w.heap.size w wr ∧ w.heap.size + 5 ≤ wr.heap.size) (fun i _ => ps.length - (intOf i).toNat)
  case atStart =>
    refine ⟨0, n1 + n2, by omega, rfl, ?_, by rw [HV.out]; simp, ?_, ?_, ?_, ?_, ?_, ?_, ?_⟩
    · have := E1.out; have := E2.out; omega
    · have e : r1 + r2 = ((n1 + n2 : Nat) : Int) := by have := E1.out; have := E2.out; omega
      rw [e]
      refine World.cell?_setCell_same _ _ _ (u := .int .i64 r1) ?_
      refine World.cell?_setCell_same _ _ _ (u := .int .i64 0) ?_
      simp [go_sem]
    · simp [go_sem]
    · simp [Two, go_sem]
    · simp [go_sem]
    · simp [go_sem]
    · exact ((below_drewN (((((Below.refl _ _).alloc (by simp) _).alloc (by simp) _).alloc (by simp; omega) _).alloc (by simp; omega) _ |>.alloc (by simp; omega) _) nq).setCell (by simp; omega) _).setCell (by simp; omega) _
    · simp
  case round =>
    obtain ⟨j, c, hj, rfl, hcj, hcount, k0, k1, ⟨t1, t2, t3⟩, k2, k3, hb', hsz⟩ := hrel
    have Hc := Lib.hid hcount
    clear hcount HV E1 E2
    by_cases hlt : j < ps.length
    · have hps' := hps.keep (hb'.mono hB) (Nat.le_refl _)
      obtain ⟨bb, oo, x, y, x2, y2, rfl, hbb, hd, _, ⟨p0, p1, p2, p3⟩, f1, f2, f3, f4⟩ := pick_box hps' hlt
      have hzz : Hid (∀ z ∈ [px, py, sx, sy, x, y, x2, y2], fits z) := by
        intro z hz'
        simp only [List.mem_cons, List.not_mem_nil, or_false] at hz'
        rcases hz' with rfl | rfl | rfl | rfl | rfl | rfl | rfl | rfl <;> first | assumption | (unfold fits; omega)
      clear hps hps' f1 f2 f3 f4 c0 c1 c2 c3 c4 c5 c6 c7 hx fht fat hnm hz Hg b1 b2
      have hbr : bb < wr.heap.size := by omega
      have s0 : w.heap.size < wr.heap.size := by omega
      go_wp2_with fail
      refine (crosses_any _ px py sx sy x y x2 y2 _ hzz (Lib.hid rfl)).mono ?_
      rintro e w1 ⟨rfl, hb1⟩
      obtain ⟨r, hr⟩ : ∃ r, r = crossB px py sx sy x y x2 y2 := ⟨_, rfl⟩
      rw [← hr]
      have Hr := Lib.hid hr
      have hbr := bit_le r
      clear hr p0 p1 p2 p3
      have hbb2 : Below wr.heap.size wr w1 := ((Below.refl _ _).alloc (Nat.le_refl _) _).trans (hb1.mono (by simp))
      obtain ⟨q1, q2⟩ := old_cells hbb2
      have z1 := hbb2.size
      have s1 : w.heap.size + 1 + 1 + 1 + 1 < w1.heap.size := by omega
      have s2 : w.heap.size + 1 + 1 + 1 + 1 < wr.heap.size := by omega
      have k0' := (q1 _ 0 s2).trans k0
      have k1' := (q2 _ 0 s2).trans k1
      have k2' := (q1 w.heap.size 1 (by omega)).trans k2
      have k3' := (q1 w.heap.size 2 (by omega)).trans k3
      have t2' := (q1 (w.heap.size + 1) 0 (by omega)).trans t2
      have t3' := (q1 (w.heap.size + 1) 1 (by omega)).trans t3
      have hb2 := hb'.trans (hbb2.mono hb'.size)
      clear q1 q2 hb1 hbb2 k0 k1 k2 k3 t2 t3 hb'
      go_wp2_with fail
      refine (worse_any r _ c _ k0' k1' (by omega) (by omega)).mono ?_
      rintro e w2 ⟨rfl, rfl⟩
      go_wp2
      go_roundw
      case rel =>
        refine ⟨j + 1, c + (if r then 1 else 0), by omega, by go_num, ?_, ?_, ?_, ?_, ?_, ?_, ?_, ?_, ?_⟩
        · split <;> omega
        · rw [Hc.out, hd.out, List.countP_cons]
          have : hitB px py sx sy (x, y, x2, y2) = r := by rw [Hr.out]; rfl
          rw [this]; omega
        · have e : (c : Int) + bit r = ((c + (if r then 1 else 0) : Nat) : Int) := by unfold bit; split <;> simp
          rw [e]; simp [go_sem, k0']
        · simp [go_sem, k1']
        · refine ⟨by simp; omega, ?_, ?_⟩
          · simp [go_sem, t2']
          · simp [go_sem, t3']
        · simp [go_sem, k2']
        · simp [go_sem, k3']
        · exact hb2.setCell (by simp; omega) _
        · simp; omega
      case measure => simp [intOf]; omega
    · have Hfin : Hid (viewN px py sx sy ht ps = c) := by
        show viewN px py sx sy ht ps = c
        rw [Hc.out, List.drop_eq_nil_of_le (by omega)]; rfl
      go_wp2
      all_goals
        go_ret
        refine ⟨ret_int ?_, hb'⟩
        rw [Hfin.out]
        omega
end Go.Proofs.Ytbphalaajhnnjaa
