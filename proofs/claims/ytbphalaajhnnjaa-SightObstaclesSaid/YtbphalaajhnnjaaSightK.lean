/- SightMatchesReference: both functions agree with the reference, for every points, rectangle, hall and level; no condition. -/
import Derived.Test.YtbphalaajhnnjaaSightJ
namespace Go.Proofs.Ytbphalaajhnnjaa
open Go.RowKit
set_option linter.unusedVariables false
attribute [local go_sem] ext_cell ext_frozen lt_ext ext_drew

theorem fewL_of {ls : List Lv} (h : fewB ls 40 100 = true) : fewL ls ∧ ls.length ≤ 40 := by
  unfold fewB at h
  simp only [Bool.and_eq_true, List.all_eq_true, decide_eq_true_eq] at h
  exact ⟨fun l hl => by have := h.1 l hl; omega, by omega⟩

theorem crosses_in (r : Bool) (ax ay bx b_y x y x2 y2 : Int) (X u : World) (hz : Hid (∀ z ∈ [ax, ay, bx, b_y, x, y, x2, y2], fits z)) (hr : Hid (crossB ax ay bx b_y x y x2 y2 = r)) :
    Calls Try.prog 11 #[.agg #[.int .i64 ax, .int .i64 ay], .agg #[.int .i64 bx, .int .i64 b_y], .agg #[.int .i64 x, .int .i64 y, .int .i64 x2, .int .i64 y2]] (ext X u)
      fun e w' => e = .returned (.bool r) ∧ ∃ u', w' = ext X u' := Calls.in_ext (crosses_any r _ _ _ _ _ _ _ _ _ hz hr)
theorem rcrosses_in (r : Bool) (ax ay bx b_y x y x2 y2 : Int) (X u : World) (hz : Hid (∀ z ∈ [ax, ay, bx, b_y, x, y, x2, y2], fits z)) (hr : Hid (crossB ax ay bx b_y x y x2 y2 = r)) :
    Calls Try.prog 12 #[.agg #[.int .i64 ax, .int .i64 ay], .agg #[.int .i64 bx, .int .i64 b_y], .agg #[.int .i64 x, .int .i64 y, .int .i64 x2, .int .i64 y2]] (ext X u)
      fun e w' => e = .returned (.bool r) ∧ ∃ u', w' = ext X u' := Calls.in_ext (rcrosses_any r _ _ _ _ _ _ _ _ _ hz hr)

/-- What a hall's levels are known by, inside a walk. -/
structure HallIn (X : World) (B : Nat) (LA : Option Addr) (ls : List Lv) : Prop where
  elems : Elems tLevel X B LA ls
  lt : B ≤ X.heap.size
  few : fewL ls
  len : ls.length ≤ 9223372036854775807

theorem view_in (r level px py sx sy : Int) (nm : ByteArray) (LA : Option Addr) (ls : List Lv) (lc : Nat) (X u : World) (B : Nat) (h : HallIn X B LA ls) (hz : Hid (∀ z ∈ [px, py, sx, sy], fits z)) (hr : Hid (viewZ (nm, (sx, sy), ls) level (px, py) = r)) :
    Calls Try.prog 13 #[.agg #[.string nm, .int .i64 sx, .int .i64 sy, .slice LA ls.length lc], .int .i64 level, .agg #[.int .i64 px, .int .i64 py]] (ext X u) fun e w' => e = .returned (.int .i64 r) ∧ ∃ u', w' = ext X u' :=
  Calls.in_ext (view_any r nm sx sy LA ls lc level px py _ B (h.elems.ext h.lt u) (Nat.le_trans h.lt (size_ext X u)) h.len (hz.out sx (by simp)) (hz.out sy (by simp)) (hz.out px (by simp)) (hz.out py (by simp)) h.few hr)
theorem rview_in (r level px py sx sy : Int) (nm : ByteArray) (LA : Option Addr) (ls : List Lv) (lc : Nat) (X u : World) (B : Nat) (h : HallIn X B LA ls) (hz : Hid (∀ z ∈ [px, py, sx, sy], fits z)) (hr : Hid (viewZ (nm, (sx, sy), ls) level (px, py) = r)) :
    Calls Try.prog 14 #[.agg #[.string nm, .int .i64 sx, .int .i64 sy, .slice LA ls.length lc], .int .i64 level, .agg #[.int .i64 px, .int .i64 py]] (ext X u) fun e w' => e = .returned (.int .i64 r) ∧ ∃ u', w' = ext X u' :=
  Calls.in_ext (rview_any r nm sx sy LA ls lc level px py _ B (h.elems.ext h.lt u) (Nat.le_trans h.lt (size_ext X u)) h.len (hz.out sx (by simp)) (hz.out sy (by simp)) (hz.out px (by simp)) (hz.out py (by simp)) h.few hr)

set_option maxRecDepth 100000 in
set_option maxHeartbeats 2000000 in
theorem matches_walk (ax ay bx b_y x y x2 y2 sx sy level : Int) (nm : ByteArray) (LA : Option Addr) (ls : List Lv) (lc : Nat) (w : World) (hls : Elems tLevel w w.heap.size LA ls) (hl : ls.length ≤ 9223372036854775807)
    (hz : Hid (∀ z ∈ [ax, ay, bx, b_y, x, y, x2, y2], fits z)) (hz2 : Hid (∀ z ∈ [ax, ay, sx, sy], fits z)) :
    Calls Try.prog 3 #[.agg #[.int .i64 ax, .int .i64 ay], .agg #[.int .i64 bx, .int .i64 b_y], .agg #[.int .i64 x, .int .i64 y, .int .i64 x2, .int .i64 y2], .agg #[.string nm, .int .i64 sx, .int .i64 sy, .slice LA ls.length lc], .int .i64 level] w
      fun e w' => e = .returned (.bool true) ∧ Below w.heap.size w w' := by
  have hW : ∀ (o1 o2 o3 o4 : Obj), Below w.heap.size w ((((w.alloc o1).alloc o2).alloc o3).alloc o4) := fun o1 o2 o3 o4 =>
    (((((Below.refl _ w).alloc (by simp) o1).alloc (by simp) o2).alloc (by simp; omega) o3).alloc (by simp; omega) o4)
  have HW := Lib.hid hW
  clear hW
  have hE : ∀ X, Below w.heap.size w X → Elems tLevel X w.heap.size LA ls := fun X h => hls.keep h (Nat.le_refl _)
  have HE := Lib.hid hE
  clear hE hls
  obtain ⟨r, hr⟩ : ∃ r, fewB ls 40 100 = r := ⟨_, rfl⟩
  have Hr := Lib.hid hr
  clear hr
  go_enter Try.func3, Try.ntmps3
  go_wp2_with fail
  refine (head_any _).mono ?_
  rintro e w' ⟨rfl, hb⟩
  obtain ⟨u, rfl⟩ := ext_of hb
  clear hb
  go_wp2_with fail
  refine (few_is r nm sx sy LA ls lc 40 100 _ w.heap.size (HE.out _ (ext_below (HW.out _ _ _ _) (HW.out _ _ _ _).size _)) (ext_below (HW.out _ _ _ _) (HW.out _ _ _ _).size _).size hl Hr).mono ?_
  rintro e w' ⟨rfl, hb⟩
  obtain ⟨u, rfl⟩ := ext_more hb
  clear hb
  cases r
  · go_wp2
    go_ret
    exact ⟨rfl, ext_below (HW.out _ _ _ _) (HW.out _ _ _ _).size _⟩
  · have hH := HallIn.mk (HE.out _ (HW.out (.cells #[.int .i64 ax, .int .i64 ay] 23) (.cells #[.int .i64 bx, .int .i64 b_y] 23) (.cells #[.int .i64 x, .int .i64 y, .int .i64 x2, .int .i64 y2] 25) (.cells #[.string nm, .int .i64 sx, .int .i64 sy, .slice LA ls.length lc] 28)))
      (HW.out _ _ _ _).size (fewL_of Hr.out).1 hl
    go_wp2_with fail
    obtain ⟨c, hc⟩ : ∃ c, crossB ax ay bx b_y x y x2 y2 = c := ⟨_, rfl⟩
    obtain ⟨v, hv⟩ : ∃ v, viewZ (nm, (sx, sy), ls) level (ax, ay) = v := ⟨_, rfl⟩
    have Hc := Lib.hid hc
    have Hv := Lib.hid hv
    clear hc hv
    refine wp_region_more _ _ (by kernel_rfl) (by kernel_rfl) ?_
    repeat (go_big_quiet_step (first
      | (go_at_call 11; exact crosses_in c _ _ _ _ _ _ _ _ _ _ hz Hc)
      | (go_at_call 12; exact rcrosses_in c _ _ _ _ _ _ _ _ _ _ hz Hc)
      | (go_at_call 13; exact view_in v _ _ _ _ _ _ _ _ _ _ _ _ hH hz2 Hv)
      | (go_at_call 14; exact rview_in v _ _ _ _ _ _ _ _ _ _ _ _ hH hz2 Hv)))
    refine wpQuiet_nil (fun v => ?_)
    go_wp2_with fail
    go_ret
    exact ⟨rfl, ext_below (HW.out _ _ _ _) (HW.out _ _ _ _).size v⟩
end Go.Proofs.Ytbphalaajhnnjaa
