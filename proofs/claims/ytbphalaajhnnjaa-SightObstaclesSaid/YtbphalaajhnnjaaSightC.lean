/- Layer 9 (sight): the walk of Crosses, where the sides decide. -/
import Derived.Test.YtbphalaajhnnjaaSightB
namespace Go.Proofs.Ytbphalaajhnnjaa
open Go.RowKit
set_option linter.unusedVariables false

/-- How many of the first k numbers are above 0, below 0. -/
def upN (ss : List Int) (k : Nat) : Nat := ((ss.take k).filter (fun s => decide (0 < s))).length
def downN (ss : List Int) (k : Nat) : Nat := ((ss.take k).filter (fun s => decide (s < 0))).length

/-- Two numbers in the first cells of a block. -/
def Two (w : World) (b : Nat) (x y : Int) : Prop := b < w.heap.size ∧ w.cell? ⟨b, 0, none⟩ = some (.int .i64 x) ∧ w.cell? ⟨b, 1, none⟩ = some (.int .i64 y)
theorem Two.below {w w' : World} {b B : Nat} {x y : Int} (h : Two w b x y) (hb : Below B w w') (hB : b < B) : Two w' b x y :=
  ⟨Nat.lt_of_lt_of_le h.1 hb.size, (hb.cell (p := ⟨b, 0, none⟩) hB).trans h.2.1, (hb.cell (p := ⟨b, 1, none⟩) hB).trans h.2.2⟩

theorem upN_succ {ss : List Int} {k : Nat} {s : Int} (h : ss[k]? = some s) : (upN ss (k + 1) : Int) = upN ss k + if 0 < s then 1 else 0 := by
  unfold upN
  rw [List.take_add_one, h]
  simp only [Option.toList_some, List.filter_append, List.length_append]
  by_cases hs : 0 < s <;> simp [hs]
theorem downN_succ {ss : List Int} {k : Nat} {s : Int} (h : ss[k]? = some s) : (downN ss (k + 1) : Int) = downN ss k + if s < 0 then 1 else 0 := by
  unfold downN
  rw [List.take_add_one, h]
  simp only [Option.toList_some, List.filter_append, List.length_append]
  by_cases hs : s < 0 <;> simp [hs]
theorem upN_le (ss : List Int) (k : Nat) : upN ss k ≤ k := by
  unfold upN
  have := List.length_filter_le (fun s => decide (0 < s)) (ss.take k)
  have := List.length_take_le k ss
  omega
theorem downN_le (ss : List Int) (k : Nat) : downN ss k ≤ k := by
  unfold downN
  have := List.length_filter_le (fun s => decide (s < 0)) (ss.take k)
  have := List.length_take_le k ss
  omega

set_option maxHeartbeats 1000000 in
theorem crosses_main (ax ay bx b_y x y x2 y2 : Int) (w : World) (hz : Hid (∀ z ∈ [ax, ay, bx, b_y, x, y, x2, y2], fits z)) (h : inB ax ay bx b_y x y x2 y2 = true) (hf : farB ax ay bx b_y x y x2 y2 = false) :
    Calls Try.prog 11 #[.agg #[.int .i64 ax, .int .i64 ay], .agg #[.int .i64 bx, .int .i64 b_y], .agg #[.int .i64 x, .int .i64 y, .int .i64 x2, .int .i64 y2]] w
      fun e w' => e = .returned (.bool (decide (upN [sideZ ax ay bx b_y x y, sideZ ax ay bx b_y x2 y, sideZ ax ay bx b_y x y2, sideZ ax ay bx b_y x2 y2] 4 < 4) && decide (downN [sideZ ax ay bx b_y x y, sideZ ax ay bx b_y x2 y, sideZ ax ay bx b_y x y2, sideZ ax ay bx b_y x2 y2] 4 < 4))) ∧ Below w.heap.size w w' := by
  obtain ⟨hc, ⟨a1, a2⟩, ⟨a3, a4⟩, ⟨a5, a6⟩, ⟨a7, a8⟩, ⟨a9, a10, a11⟩, a12, a13, a14⟩ := inB_out h
  have Hc := Lib.hid hc
  clear hc h
  obtain ⟨⟨⟨f1, f2⟩, f3⟩, f4⟩ : ((x ≤ max ax bx ∧ min ax bx ≤ x2) ∧ y ≤ max ay b_y) ∧ min ay b_y ≤ y2 := by
    unfold farB at hf
    simpa using hf
  clear hf
  have hmx := ite_max
  have hmn := ite_min
  go_enter Try.func11, Try.ntmps11
  go_wp2_with fail
  refine (coordinates_is true _ _ _ 8 8 [ax, ay, bx, b_y, x, y, x2, y2] (elems_new _ _ 3 _ (by simp) hz.out) rfl (by omega) Hc).mono ?_
  rintro e w' ⟨rfl, rfl⟩
  go_wp2_with fail
  have hW : Below w.heap.size w ((((w.alloc (.cells #[.int .i64 ax, .int .i64 ay] 23)).alloc (.cells #[.int .i64 bx, .int .i64 b_y] 23)).alloc (.cells #[.int .i64 x, .int .i64 y, .int .i64 x2, .int .i64 y2] 25))) :=
    (((Below.refl _ _).alloc (by simp) _).alloc (by simp) _).alloc (by simp; omega) _
  obtain ⟨ss, hss⟩ : ∃ ss, ss = [sideZ ax ay bx b_y x y, sideZ ax ay bx b_y x2 y, sideZ ax ay bx b_y x y2, sideZ ax ay bx b_y x2 y2] := ⟨_, rfl⟩
  have Hss := Lib.hid hss
  clear hss
  go_loopw [8, 9, 106] (fun l r i wr => ∃ k : Nat, k ≤ 4 ∧ i = .int .i64 k ∧ l = .int .i64 (upN ss k : Nat) ∧
      r = .int .i64 (downN ss k : Nat) ∧ Two wr w.heap.size ax ay ∧ Two wr (w.heap.size + 1) bx b_y ∧ Below w.heap.size w wr ∧ w.heap.size + 5 ≤ wr.heap.size) (fun _ _ i _ => 4 - (intOf i).toNat)
  case atStart =>
    refine ⟨0, by omega, rfl, rfl, rfl, ?_, ?_, ?_, ?_⟩
    · simp [Two, go_sem]
    · simp [Two, go_sem]
    · exact (hW.alloc (by simp; omega) _).alloc (by simp; omega) _
    · simp
  case round =>
    obtain ⟨k, hk, rfl, rfl, rfl, T1, T2, hb, hsz⟩ := hrel
    have u1 := upN_le ss k
    have u2 := downN_le ss k
    have ⟨t1, t2, t3⟩ := T1
    have ⟨t4, t5, t6⟩ := T2
    by_cases h4 : k = 4
    · subst h4
      go_wp2
      all_goals go_ret
      all_goals refine ⟨ret_bool ?_, hb⟩
      all_goals rw [← Hss.out]
      all_goals by_cases h1 : upN ss 4 < 4 <;> by_cases h2 : downN ss 4 < 4 <;> simp [h1, h2] <;> omega
    · obtain ⟨px, py, hi, Hs⟩ : ∃ px py : Int, (∀ w, (Instr.index 54 (.agg #[.int .i64 x, .int .i64 y, .int .i64 x2, .int .i64 y, .int .i64 x, .int .i64 y2, .int .i64 x2, .int .i64 y2]) (.int .i64 (k : Int))).run Try.prog w = .ok (.agg #[.int .i64 px, .int .i64 py]) w) ∧
          Hid (ss[k]? = some (sideZ ax ay bx b_y px py)) := by
        rcases (show k = 0 ∨ k = 1 ∨ k = 2 ∨ k = 3 by omega) with rfl | rfl | rfl | rfl
        · exact ⟨x, y, fun _ => by kernel_rfl, by rw [Hss.out]; rfl⟩
        · exact ⟨x2, y, fun _ => by kernel_rfl, by rw [Hss.out]; rfl⟩
        · exact ⟨x, y2, fun _ => by kernel_rfl, by rw [Hss.out]; rfl⟩
        · exact ⟨x2, y2, fun _ => by kernel_rfl, by rw [Hss.out]; rfl⟩
      have hup := Lib.hid (upN_succ Hs.out)
      have hdn := Lib.hid (downN_succ Hs.out)
      have hk4 : k < 4 := by omega
      go_wp2_with fail
      refine (side_any _ _ _ _ _ _ _).mono ?_
      rintro e w1 ⟨rfl, hb1⟩
      obtain ⟨s, hs⟩ : ∃ s, s = sideZ ax ay bx b_y px py := ⟨_, rfl⟩
      rw [← hs]
      have Hs2 := Lib.hid hs
      clear hs
      have hbb : Below wr.heap.size wr w1 := ((Below.refl _ _).alloc (Nat.le_refl _) _).trans (hb1.mono (by simp))
      have T1' := T1.below hbb t1
      have T2' := T2.below hbb t4
      have hb' := hb.trans (hbb.mono hb.size)
      have hsz' : w.heap.size + 5 ≤ w1.heap.size := Nat.le_trans hsz hbb.size
      clear T1 T2 t2 t3 t5 t6 hb1 hbb hi
      go_wp2
      all_goals
        go_roundw
        case rel => exact ⟨k + 1, by omega, by go_num, val_int (by have := hup.out; rw [← Hs2.out] at this; omega), val_int (by have := hdn.out; rw [← Hs2.out] at this; omega), T1', T2', hb', hsz'⟩
        case measure => simp [intOf]; omega
end Go.Proofs.Ytbphalaajhnnjaa
