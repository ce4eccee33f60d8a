/- Layer 34 (deal): the sums of the lines of a bill, by their kinds. -/
import Derived.Test.YtggmihnhdojepaaDealE
namespace Go.Proofs.Ytggmihnhdojepaa
open Go.RowKit
set_option linter.unusedVariables false
set_option linter.unusedSimpArgs false
attribute [local go_sem] ext_cell ext_frozen lt_ext ext_drew

theorem take_lines {ls : List Ln} (h : ls.all lineB = true) (k : Nat) : (ls.take k).all lineB = true := List.all_eq_true.2 fun x hx => List.all_eq_true.1 h x (List.mem_of_mem_take hx)
theorem part_to {ls : List Ln} (h : ls.all lineB = true) (q : Int) {k : Nat} (hk : k ≤ ls.length) : 0 ≤ partOf q (ls.take k) ∧ partOf q (ls.take k) ≤ 1000000000 * (k : Int) := by
  have h1 := partOf_bd q _ (take_lines h k)
  have h2 := sumOf_bd _ (take_lines h k)
  rw [List.length_take_of_le hk] at h2
  omega
theorem part_zero (q : Int) (ls : List Ln) : partOf q (ls.take 0) = 0 := rfl
def sumsC (ls : List Ln) (k : Nat) : Array Value := #[.int .i64 (if 0 < k then partOf 1 ls else 0), .int .i64 (if 1 < k then partOf 2 ls else 0), .int .i64 (if 2 < k then partOf 3 ls else 0)]

set_option maxRecDepth 100000 in
set_option maxHeartbeats 4000000 in
theorem sums_any (A : Option Addr) (ls : List Ln) (cap n : Nat) (total : Int) (w : World) (B : Nat) (h : Elems tLine w B A ls) (hB : B ≤ w.heap.size) (hn : ls.length = n) (hl : n ≤ 60) (hall : ls.all lineB = true) :
    Calls Try.prog 29 #[.agg #[.slice A n cap, .int .i64 total]] w fun e w' => e = .returned (.agg #[.int .i64 (partOf 1 ls), .int .i64 (partOf 2 ls), .int .i64 (partOf 3 ls)]) ∧ Below w.heap.size w w' := by
  subst hn
  have HH := Lib.hid h
  have HA := Lib.hid hall
  clear h hall
  go_enter Try.func29, Try.ntmps29
  go_upto_region 3 with (fail)
  refine forget (fun W => Below w.heap.size w W ∧ Bk W w.heap.size #[.slice A ls.length cap, .int .i64 total] 24 ∧ Bk W (w.heap.size + 1) #[.int .i64 0, .int .i64 0, .int .i64 0] 70 ∧ Bk W (w.heap.size + 2) #[.int .i64 0, .int .i64 0, .int .i64 0] 70) ⟨?_, ?_, ?_, ?_⟩ ?_
  · (repeat (first | with_reducible exact Below.refl _ _ | with_reducible assumption | with_reducible refine Below.alloc0 ?_ _ | with_reducible refine Below.ext0 ?_ _ | with_reducible refine Below.drew ?_ | with_reducible refine below_drewN ?_ _ | (with_reducible refine Below.setCell (hp := ?hp) ?_ _; case hp => (first | (simp; done) | (simp; omega)))))
  · exact ((Bk.new w _ _).alloc _).alloc _
  · exact (bk_new_at _ _ _ _ (by simp)).alloc _
  · exact bk_new_at _ _ _ _ (by simp)
  rintro W ⟨hw, b0, b1, b2⟩
  generalize hg : w.heap.size = g at *
  have hW := b2.lt
  have HW := Lib.hid (And.intro hw (And.intro b0 (And.intro b1 b2)))
  have HE := Lib.hid (HH.out.keep (hw.mono hB) (Nat.le_refl _))
  clear hw b0 b1 b2 HH
  go_loopw [7] (fun i wr => ∃ k : Nat, k ≤ 3 ∧ i = .int .i64 k ∧ Bk wr (g + 2) (sumsC ls k) 70 ∧ Only (fun b => b = g + 2) W wr) (fun i _ => 3 - (intOf i).toNat)
  case atStart => exact ⟨0, by omega, rfl, HW.out.2.2.2, Only.refl _ _⟩
  case round =>
    obtain ⟨k, hk, rfl, hc, ho⟩ := hrel
    have b0 := HW.out.2.1.only ho (by omega)
    have b1 := HW.out.2.2.1.only ho (by omega)
    have c0 := b0.cell
    have l0 := b0.lt
    have hwr := ho.size
    have HO := Lib.hid ho
    have Hb1 := Lib.hid b1
    clear ho b0 b1
    have hk4 : k = 0 ∨ k = 1 ∨ k = 2 ∨ k = 3 := by omega
    rcases hk4 with rfl | rfl | rfl | rfl
    · have Hst : Hid (∀ wr' : World, Bk wr' (g + 2) #[.int .i64 (partOf 1 ls), .int .i64 0, .int .i64 0] 70 → Bk wr' (g + 2) (sumsC ls 1) 70) := Lib.hid fun _ h => h
      have hc : Bk wr (g + 2) #[.int .i64 0, .int .i64 0, .int .i64 0] 70 := hc
      have HC := Lib.hid hc
      clear hc
      go_wp2_with fail
      go_loopw [13] (fun q wx => ∃ j : Nat, j ≤ ls.length ∧ q = .int .i64 j ∧ Bk wx (g + 2) #[.int .i64 (partOf 1 (ls.take j)), .int .i64 0, .int .i64 0] 70 ∧ Only (fun b => b = g + 2) W wx) (fun q _ => ls.length - (intOf q).toNat)
      case atStart => exact ⟨0, by omega, rfl, HC.out, HO.out⟩
      case round =>
        rename_i wr0
        obtain ⟨j, hj, rfl, hc, ho⟩ := hrel
        have hE := HE.out.keep (ho.to_below (B := B) (fun b hb => by omega) (by omega)) (Nat.le_refl _)
        have hs := ho.size
        have x0 := hc.cell
        have x1 := hc.lt
        have x2 := hc.free
        have HX := Lib.hid (And.intro hc ho)
        clear hc ho HC
        obtain ⟨p0, p1⟩ := part_to HA.out 1 hj
        by_cases hlt : j < ls.length
        · obtain ⟨b, off, kd, a, rfl, hb, Hk, d0, d1, f0, f1⟩ := pick_line hE hlt
          have hPt := partOf_take (kd := 1) Hk.out
          have Hin : Hid (lineB (kd, a) = true) := Lib.hid (List.all_eq_true.1 HA.out _ (List.mem_of_getElem? Hk.out))
          have hin := Hin.out
          simp only [lineB, Bool.and_eq_true, decide_eq_true_eq] at hin
          obtain ⟨⟨⟨m1, m2⟩, m3⟩, m4⟩ := hin
          have hjl : (j : Int) < (ls.length : Int) := by omega
          have hj60 : (j : Int) ≤ 60 := by omega
          generalize partOf 1 (ls.take j) = S at *
          clear hE f0 f1 Hin
          by_cases hkd : kd = 1
          · subst hkd
            have Hn : Hid (partOf 1 (ls.take (j + 1)) = S + a) := Lib.hid (by rw [hPt]; simp [pickB])
            clear hPt
            go_wp2_with fail
            refine wp_region_tail 7 (by kernel_rfl) (by kernel_rfl) ?_
            simp only [List.take_succ_cons, List.take_zero, List.drop_succ_cons, List.drop_zero]
            repeat (go_big_quiet_step (fail))
            refine wpQuiet_nil ?_
            go_wp2_with fail
            go_roundw
            case rel => exact ⟨j + 1, by omega, by go_num, by rw [Hn.out]; exact (((HX.out.1.set_ 0 _).alloc _).drew), ((HX.out.2.set_ (p := ⟨g + 2, 0, none⟩) (.inl rfl) _).alloc _).drew⟩
            case measure => simp [intOf]; omega
          · have Hn : Hid (partOf 1 (ls.take (j + 1)) = S) := Lib.hid (by rw [hPt]; simp [pickB, hkd])
            clear hPt
            go_wp2_with fail
            go_roundw
            case rel => exact ⟨j + 1, by omega, by go_num, by rw [Hn.out]; exact HX.out.1.alloc _, HX.out.2.alloc _⟩
            case measure => simp [intOf]; omega
        · obtain rfl : j = ls.length := by omega
          have HY : Hid (Bk _ (g + 2) #[.int .i64 (partOf 1 ls), .int .i64 0, .int .i64 0] 70 ∧ _) := Lib.hid (by have h := HX.out; rw [List.take_length] at h; exact h)
          clear HX x0 x1 x2 hE
          rw [List.take_length] at p0 p1
          go_wp2_with fail
          go_roundw
          case rel => exact ⟨1, by omega, by go_num, Hst.out _ HY.out.1, HY.out.2⟩
          case measure => simp [intOf]
    · have Hst : Hid (∀ wr' : World, Bk wr' (g + 2) #[.int .i64 (partOf 1 ls), .int .i64 (partOf 2 ls), .int .i64 0] 70 → Bk wr' (g + 2) (sumsC ls 2) 70) := Lib.hid fun _ h => h
      have hc : Bk wr (g + 2) #[.int .i64 (partOf 1 ls), .int .i64 0, .int .i64 0] 70 := hc
      have HC := Lib.hid hc
      clear hc
      go_wp2_with fail
      go_loopw [13] (fun q wx => ∃ j : Nat, j ≤ ls.length ∧ q = .int .i64 j ∧ Bk wx (g + 2) #[.int .i64 (partOf 1 ls), .int .i64 (partOf 2 (ls.take j)), .int .i64 0] 70 ∧ Only (fun b => b = g + 2) W wx) (fun q _ => ls.length - (intOf q).toNat)
      case atStart => exact ⟨0, by omega, rfl, HC.out, HO.out⟩
      case round =>
        rename_i wr0
        obtain ⟨j, hj, rfl, hc, ho⟩ := hrel
        have hE := HE.out.keep (ho.to_below (B := B) (fun b hb => by omega) (by omega)) (Nat.le_refl _)
        have hs := ho.size
        have x0 := hc.cell
        have x1 := hc.lt
        have x2 := hc.free
        have HX := Lib.hid (And.intro hc ho)
        clear hc ho HC
        obtain ⟨p0, p1⟩ := part_to HA.out 2 hj
        by_cases hlt : j < ls.length
        · obtain ⟨b, off, kd, a, rfl, hb, Hk, d0, d1, f0, f1⟩ := pick_line hE hlt
          have hPt := partOf_take (kd := 2) Hk.out
          have Hin : Hid (lineB (kd, a) = true) := Lib.hid (List.all_eq_true.1 HA.out _ (List.mem_of_getElem? Hk.out))
          have hin := Hin.out
          simp only [lineB, Bool.and_eq_true, decide_eq_true_eq] at hin
          obtain ⟨⟨⟨m1, m2⟩, m3⟩, m4⟩ := hin
          have hjl : (j : Int) < (ls.length : Int) := by omega
          have hj60 : (j : Int) ≤ 60 := by omega
          generalize partOf 2 (ls.take j) = S at *
          clear hE f0 f1 Hin
          by_cases hkd : kd = 2
          · subst hkd
            have Hn : Hid (partOf 2 (ls.take (j + 1)) = S + a) := Lib.hid (by rw [hPt]; simp [pickB])
            clear hPt
            go_wp2_with fail
            refine wp_region_tail 7 (by kernel_rfl) (by kernel_rfl) ?_
            simp only [List.take_succ_cons, List.take_zero, List.drop_succ_cons, List.drop_zero]
            repeat (go_big_quiet_step (fail))
            refine wpQuiet_nil ?_
            go_wp2_with fail
            go_roundw
            case rel => exact ⟨j + 1, by omega, by go_num, by rw [Hn.out]; exact (((HX.out.1.set_ 1 _).alloc _).drew), ((HX.out.2.set_ (p := ⟨g + 2, 1, none⟩) (.inl rfl) _).alloc _).drew⟩
            case measure => simp [intOf]; omega
          · have Hn : Hid (partOf 2 (ls.take (j + 1)) = S) := Lib.hid (by rw [hPt]; simp [pickB, hkd])
            clear hPt
            go_wp2_with fail
            go_roundw
            case rel => exact ⟨j + 1, by omega, by go_num, by rw [Hn.out]; exact HX.out.1.alloc _, HX.out.2.alloc _⟩
            case measure => simp [intOf]; omega
        · obtain rfl : j = ls.length := by omega
          have HY : Hid (Bk _ (g + 2) #[.int .i64 (partOf 1 ls), .int .i64 (partOf 2 ls), .int .i64 0] 70 ∧ _) := Lib.hid (by have h := HX.out; rw [List.take_length] at h; exact h)
          clear HX x0 x1 x2 hE
          rw [List.take_length] at p0 p1
          go_wp2_with fail
          go_roundw
          case rel => exact ⟨2, by omega, by go_num, Hst.out _ HY.out.1, HY.out.2⟩
          case measure => simp [intOf]
    · have Hst : Hid (∀ wr' : World, Bk wr' (g + 2) #[.int .i64 (partOf 1 ls), .int .i64 (partOf 2 ls), .int .i64 (partOf 3 ls)] 70 → Bk wr' (g + 2) (sumsC ls 3) 70) := Lib.hid fun _ h => h
      have hc : Bk wr (g + 2) #[.int .i64 (partOf 1 ls), .int .i64 (partOf 2 ls), .int .i64 0] 70 := hc
      have HC := Lib.hid hc
      clear hc
      go_wp2_with fail
      go_loopw [13] (fun q wx => ∃ j : Nat, j ≤ ls.length ∧ q = .int .i64 j ∧ Bk wx (g + 2) #[.int .i64 (partOf 1 ls), .int .i64 (partOf 2 ls), .int .i64 (partOf 3 (ls.take j))] 70 ∧ Only (fun b => b = g + 2) W wx) (fun q _ => ls.length - (intOf q).toNat)
      case atStart => exact ⟨0, by omega, rfl, HC.out, HO.out⟩
      case round =>
        rename_i wr0
        obtain ⟨j, hj, rfl, hc, ho⟩ := hrel
        have hE := HE.out.keep (ho.to_below (B := B) (fun b hb => by omega) (by omega)) (Nat.le_refl _)
        have hs := ho.size
        have x0 := hc.cell
        have x1 := hc.lt
        have x2 := hc.free
        have HX := Lib.hid (And.intro hc ho)
        clear hc ho HC
        obtain ⟨p0, p1⟩ := part_to HA.out 3 hj
        by_cases hlt : j < ls.length
        · obtain ⟨b, off, kd, a, rfl, hb, Hk, d0, d1, f0, f1⟩ := pick_line hE hlt
          have hPt := partOf_take (kd := 3) Hk.out
          have Hin : Hid (lineB (kd, a) = true) := Lib.hid (List.all_eq_true.1 HA.out _ (List.mem_of_getElem? Hk.out))
          have hin := Hin.out
          simp only [lineB, Bool.and_eq_true, decide_eq_true_eq] at hin
          obtain ⟨⟨⟨m1, m2⟩, m3⟩, m4⟩ := hin
          have hjl : (j : Int) < (ls.length : Int) := by omega
          have hj60 : (j : Int) ≤ 60 := by omega
          generalize partOf 3 (ls.take j) = S at *
          clear hE f0 f1 Hin
          by_cases hkd : kd = 3
          · subst hkd
            have Hn : Hid (partOf 3 (ls.take (j + 1)) = S + a) := Lib.hid (by rw [hPt]; simp [pickB])
            clear hPt
            go_wp2_with fail
            refine wp_region_tail 7 (by kernel_rfl) (by kernel_rfl) ?_
            simp only [List.take_succ_cons, List.take_zero, List.drop_succ_cons, List.drop_zero]
            repeat (go_big_quiet_step (fail))
            refine wpQuiet_nil ?_
            go_wp2_with fail
            go_roundw
            case rel => exact ⟨j + 1, by omega, by go_num, by rw [Hn.out]; exact (((HX.out.1.set_ 2 _).alloc _).drew), ((HX.out.2.set_ (p := ⟨g + 2, 2, none⟩) (.inl rfl) _).alloc _).drew⟩
            case measure => simp [intOf]; omega
          · have Hn : Hid (partOf 3 (ls.take (j + 1)) = S) := Lib.hid (by rw [hPt]; simp [pickB, hkd])
            clear hPt
            go_wp2_with fail
            go_roundw
            case rel => exact ⟨j + 1, by omega, by go_num, by rw [Hn.out]; exact HX.out.1.alloc _, HX.out.2.alloc _⟩
            case measure => simp [intOf]; omega
        · obtain rfl : j = ls.length := by omega
          have HY : Hid (Bk _ (g + 2) #[.int .i64 (partOf 1 ls), .int .i64 (partOf 2 ls), .int .i64 (partOf 3 ls)] 70 ∧ _) := Lib.hid (by have h := HX.out; rw [List.take_length] at h; exact h)
          clear HX x0 x1 x2 hE
          rw [List.take_length] at p0 p1
          go_wp2_with fail
          go_roundw
          case rel => exact ⟨3, by omega, by go_num, Hst.out _ HY.out.1, HY.out.2⟩
          case measure => simp [intOf]
    · have HC : Hid (Bk wr (g + 2) #[.int .i64 (partOf 1 ls), .int .i64 (partOf 2 ls), .int .i64 (partOf 3 ls)] 70) := Lib.hid hc
      have x0 := HC.out.cell
      have x1 := HC.out.lt
      have y1 := Hb1.out.cell
      have y2 := Hb1.out.free
      have y3 := Hb1.out.lt
      have hfin := Lib.hid (HW.out.1.trans (HO.out.to_below (fun b hb => by omega) (by omega)))
      clear hc HC HW HE c0 HO
      go_wp2_with fail
      have hbR : Bk _ (g + 1) #[.int .i64 (partOf 1 ls), .int .i64 (partOf 2 ls), .int .i64 (partOf 3 ls)] 70 := ((Hb1.out.set_ 0 (.int .i64 (partOf 1 ls))).set_ 1 (.int .i64 (partOf 2 ls))).set_ 2 (.int .i64 (partOf 3 ls))
      refine bodyPost_ret (v := .agg #[.int .i64 (partOf 1 ls), .int .i64 (partOf 2 ls), .int .i64 (partOf 3 ls)]) (results_cell_row rfl _ _ (g + 1) 70 #[.int .i64 (partOf 1 ls), .int .i64 (partOf 2 ls), .int .i64 (partOf 3 ls)] (0, 0) _ rfl hbR Try.underlying70 rfl (by kernel_rfl)) rfl ⟨rfl, ?_⟩
      have hw : Below w.heap.size w wr := by rw [hg]; exact hfin.out
      (repeat (first | with_reducible exact Below.refl _ _ | with_reducible assumption | with_reducible refine Below.alloc0 ?_ _ | with_reducible refine Below.ext0 ?_ _ | with_reducible refine Below.drew ?_ | with_reducible refine below_drewN ?_ _ | (with_reducible refine Below.setCell (hp := ?hp) ?_ _; case hp => (first | (simp; done) | (simp; omega)))))
end Go.Proofs.Ytggmihnhdojepaa
