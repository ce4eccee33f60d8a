/- Layer 9 (sight): both Crosses in one word each; halls in memory; the closure of View. -/
import Derived.Test.YtbphalaajhnnjaaSightC
import Derived.Test.YtbphalaajhnnjaaSightD
import Derived.Test.YtbphalaajhnnjaaSightE
namespace Go.Proofs.Ytbphalaajhnnjaa
open Go.RowKit
set_option linter.unusedVariables false

theorem upN_all (a b c d : Int) : decide (upN [a, b, c, d] 4 < 4) = !(decide (0 < a) && decide (0 < b) && decide (0 < c) && decide (0 < d)) := by
  unfold upN
  by_cases h1 : 0 < a <;> by_cases h2 : 0 < b <;> by_cases h3 : 0 < c <;> by_cases h4 : 0 < d <;> simp [h1, h2, h3, h4]
theorem downN_all (a b c d : Int) : decide (downN [a, b, c, d] 4 < 4) = !(decide (a < 0) && decide (b < 0) && decide (c < 0) && decide (d < 0)) := by
  unfold downN
  by_cases h1 : a < 0 <;> by_cases h2 : b < 0 <;> by_cases h3 : c < 0 <;> by_cases h4 : d < 0 <;> simp [h1, h2, h3, h4]
theorem turnZ_lt (n : Int) : decide (0 < turnZ n) = decide (0 < n) := by
  unfold turnZ; split <;> (try split) <;> simp <;> omega
theorem turnZ_gt (n : Int) : decide (turnZ n < 0) = decide (n < 0) := by
  unfold turnZ; split <;> (try split) <;> simp <;> omega

/-- Crosses, whatever the numbers. -/
theorem crosses_any (r : Bool) (ax ay bx b_y x y x2 y2 : Int) (w : World) (hz : Hid (∀ z ∈ [ax, ay, bx, b_y, x, y, x2, y2], fits z)) (hr : Hid (crossB ax ay bx b_y x y x2 y2 = r)) :
    Calls Try.prog 11 #[.agg #[.int .i64 ax, .int .i64 ay], .agg #[.int .i64 bx, .int .i64 b_y], .agg #[.int .i64 x, .int .i64 y, .int .i64 x2, .int .i64 y2]] w
      fun e w' => e = .returned (.bool r) ∧ Below w.heap.size w w' := by
  rw [← hr.out]
  unfold crossB
  by_cases h : inB ax ay bx b_y x y x2 y2 = true
  · by_cases hf : farB ax ay bx b_y x y x2 y2 = true
    · rw [h, hf]; exact crosses_far _ _ _ _ _ _ _ _ _ hz h hf
    · have hf' : farB ax ay bx b_y x y x2 y2 = false := by simpa using hf
      rw [h, hf']
      simp only [Bool.not_false, Bool.true_and]
      rw [← upN_all, ← downN_all]
      exact crosses_main _ _ _ _ _ _ _ _ _ hz h hf'
  · have h' : inB ax ay bx b_y x y x2 y2 = false := by simpa using h
    rw [h']
    exact crosses_no _ _ _ _ _ _ _ _ _ hz h'

theorem rcrosses_any (r : Bool) (ax ay bx b_y x y x2 y2 : Int) (w : World) (hz : Hid (∀ z ∈ [ax, ay, bx, b_y, x, y, x2, y2], fits z)) (hr : Hid (crossB ax ay bx b_y x y x2 y2 = r)) :
    Calls Try.prog 12 #[.agg #[.int .i64 ax, .int .i64 ay], .agg #[.int .i64 bx, .int .i64 b_y], .agg #[.int .i64 x, .int .i64 y, .int .i64 x2, .int .i64 y2]] w
      fun e w' => e = .returned (.bool r) ∧ Below w.heap.size w w' := by
  rw [← hr.out]
  unfold crossB
  by_cases h : inB ax ay bx b_y x y x2 y2 = true
  · by_cases hf : farB ax ay bx b_y x y x2 y2 = true
    · rw [h, hf]; exact rcrosses_far _ _ _ _ _ _ _ _ _ hz h hf
    · have hf' : farB ax ay bx b_y x y x2 y2 = false := by simpa using hf
      rw [h, hf']
      simp only [Bool.not_false, Bool.true_and]
      have := rcrosses_main ax ay bx b_y x y x2 y2 _ _ _ _ w hz h hf' (Lib.hid rfl) (Lib.hid rfl) (Lib.hid rfl) (Lib.hid rfl)
      simp only [turnZ_lt, turnZ_gt] at this
      exact this
  · have h' : inB ax ay bx b_y x y x2 y2 = false := by simpa using h
    rw [h']
    exact rcrosses_no _ _ _ _ _ _ _ _ _ hz h'

/-! ### The closure that counts -/
def bit (r : Bool) : Int := if r then 1 else 0
theorem bit_le (r : Bool) : 0 ≤ bit r ∧ bit r ≤ 1 := by cases r <;> simp [bit]

/-- To store what lies there turns nothing. -/
theorem setCell_id {w : World} {b o : Nat} {v : Value} (h : w.cell? ⟨b, o, none⟩ = some v) : w.setCell ⟨b, o, none⟩ v = w := by
  obtain ⟨heap, _⟩ := w
  unfold World.cell? at h
  simp only at h
  unfold World.setCell
  congr 1
  apply Array.ext_getElem?
  intro i
  simp only [Array.getElem?_modify]
  split
  · rename_i hi
    subst hi
    cases hh : heap[b]? with
    | none => rfl
    | some ob =>
      rw [hh] at h
      cases ob with
      | cells c t f =>
        simp only [Option.isSome_none] at h
        simp only [Option.map_some, Option.some.injEq]
        have hc : c.setIfInBounds o v = c := by
          apply Array.ext_getElem?
          intro k
          rw [Array.getElem?_setIfInBounds]
          split
          · rename_i hk; subst hk
            have h' : c[o]? = some v := by simpa using h
            obtain ⟨ho, hv⟩ := Array.getElem?_eq_some_iff.1 h'
            rw [if_pos ho, h']
          · rfl
        simpa using hc
      | _ => simp at h
  · rfl

set_option maxHeartbeats 400000 in
theorem worse_any (r : Bool) (b : Nat) (n : Int) (w : World) (hc : w.cell? ⟨b, 0, none⟩ = some (.int .i64 n)) (hf : w.frozen? ⟨b, 0, none⟩ = false) (h0 : 0 ≤ n) (h1 : n ≤ 1000000) :
    Calls Try.prog 23 #[.bool r, .pointer (some ⟨b, 0, none⟩)] w fun e w' => e = .returned (.tuple #[]) ∧ w.setCell ⟨b, 0, none⟩ (.int .i64 (n + bit r)) = w' := by
  cases r
  · have H := Lib.hid (setCell_id hc)
    go_enter Try.func23, Try.ntmps23
    go_wp2
    go_end0
    exact ⟨rfl, by simp only [bit, Bool.false_eq_true, if_false, Int.add_zero]; exact H.out⟩
  · go_enter Try.func23, Try.ntmps23
    go_wp2
    go_end0
    exact ⟨rfl, rfl⟩

/-! ### Halls in memory -/

/-- A slice of which only the header is looked at. -/
def tHead : Ty (Option Addr × Nat × Nat) where
  n := 1
  rd := fun _ _ cs x => cs = [.slice x.1 x.2.1 x.2.2]
  len := by rintro _ _ _ _ rfl; rfl
  keep := fun _ _ h => h
theorem opens_head {P : Program} {t e : TypeId} (ht : P.underlying t = some (.slice e)) (hc : P.cellsOf t = 1) : Opens P t tHead :=
  ⟨hc, fun H enc w spare held base fuel cs x h => by
    rcases Go.Deep.open_slice ht h with ⟨rfl, _⟩ | ⟨a, len, cap, m, n, D, Pl, rfl, _⟩
    · exact ⟨(none, 0, 0), rfl⟩
    · exact ⟨(some a, len, cap), rfl⟩⟩

abbrev Pt := Int × Int
abbrev Bx := Int × Int × Int × Int
def tPoint : Ty Pt := tPair tInt tInt
def tBox : Ty Bx := tPair tInt (tPair tInt (tPair tInt tInt))
abbrev Hd := Option Addr × Nat × Nat
/-- Name, Height, Blocks, Areas, Aisles, Pillars, Doors, At. -/
abbrev Lv := ByteArray × Int × Hd × Hd × Hd × List Bx × Hd × Int
def tLevel : Ty Lv := tPair tStr (tPair tInt (tPair tHead (tPair tHead (tPair tHead (tPair (tSlice tBox) (tPair tHead tInt))))))
abbrev Hl := ByteArray × Pt × List Lv
def tHall : Ty Hl := tPair tStr (tPair tPoint (tSlice tLevel))

theorem opensI : Opens Try.prog 3 tInt := opens_int Try.underlying3 (by kernel_rfl)
theorem opensS : Opens Try.prog 9 tStr := opens_str Try.underlying9 (by kernel_rfl)
theorem opensPoint : Opens Try.prog 23 tPoint := opens_struct Try.underlying23 (by kernel_rfl) (.cons rfl opensI (.one rfl opensI))
theorem opensBox : Opens Try.prog 25 tBox := opens_struct Try.underlying25 (by kernel_rfl) (.cons rfl opensI (.cons rfl opensI (.cons rfl opensI (.one rfl opensI))))
theorem opensBoxes : Opens Try.prog 46 (tSlice tBox) := opens_slice Try.underlying46 (by kernel_rfl) (by decide) opensBox
theorem opensLevel : Opens Try.prog 51 tLevel := opens_struct Try.underlying51 (by kernel_rfl)
  (.cons rfl opensS (.cons rfl opensI (.cons rfl (opens_head Try.underlying47 (by kernel_rfl)) (.cons rfl (opens_head Try.underlying48 (by kernel_rfl))
    (.cons rfl (opens_head Try.underlying46 (by kernel_rfl)) (.cons rfl opensBoxes (.cons rfl (opens_head Try.underlying49 (by kernel_rfl)) (.one rfl opensI))))))))
theorem opensLevels : Opens Try.prog 26 (tSlice tLevel) := opens_slice Try.underlying26 (by kernel_rfl) (by decide) opensLevel
theorem opensHall : Opens Try.prog 28 tHall := opens_struct Try.underlying28 (by kernel_rfl) (.cons rfl opensS (.cons rfl opensPoint (.one rfl opensLevels)))
end Go.Proofs.Ytbphalaajhnnjaa
