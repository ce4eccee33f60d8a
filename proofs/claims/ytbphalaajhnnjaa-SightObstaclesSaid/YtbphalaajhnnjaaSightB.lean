/- Layer 9 (sight): the walks of Crosses. -/
import Derived.Test.YtbphalaajhnnjaaSightA
namespace Go.Proofs.Ytbphalaajhnnjaa
open Go.RowKit
set_option linter.unusedVariables false

def inB (ax ay bx b_y x y x2 y2 : Int) : Bool := [ax, ay, bx, b_y, x, y, x2, y2].all coordB && decide (x ≤ x2) && decide (y ≤ y2)
def farB (ax ay bx b_y x y x2 y2 : Int) : Bool := decide (max ax bx < x) || decide (x2 < min ax bx) || decide (max ay b_y < y) || decide (y2 < min ay b_y)

def crossB (ax ay bx b_y x y x2 y2 : Int) : Bool :=
  inB ax ay bx b_y x y x2 y2 && !farB ax ay bx b_y x y x2 y2 &&
    !(decide (0 < sideZ ax ay bx b_y x y) && decide (0 < sideZ ax ay bx b_y x2 y) && decide (0 < sideZ ax ay bx b_y x y2) && decide (0 < sideZ ax ay bx b_y x2 y2)) &&
    !(decide (sideZ ax ay bx b_y x y < 0) && decide (sideZ ax ay bx b_y x2 y < 0) && decide (sideZ ax ay bx b_y x y2 < 0) && decide (sideZ ax ay bx b_y x2 y2 < 0))

def fits (n : Int) : Prop := -9223372036854775808 ≤ n ∧ n ≤ 9223372036854775807

/-- Numbers in a new block of their own. -/
theorem elems_new (W : World) (b t : Nat) (zs : List Int) (hb : W.heap.size = b) (hz : ∀ z ∈ zs, fits z) :
    Elems tInt (W.alloc (.cells (zs.map (Value.int .i64)).toArray t)) (b + 1) (some ⟨b, 0, none⟩) zs := fun i hi => by
  refine ⟨b, 0, [.int .i64 zs[i]], rfl, by omega, ⟨rfl, hz _ (List.getElem_mem hi)⟩, ?_⟩
  intro j u hu
  have hj : j = 0 := by
    have := (List.getElem?_eq_some_iff.1 hu).1
    simpa using this
  subst hj hb
  simp only [List.getElem?_cons_zero, Option.some.injEq] at hu
  subst hu
  simp only [World.cell?, heap_alloc_new]
  simp [tInt, hi]

theorem coordinates_is (r : Bool) (w : World) (B : Nat) (A : Option Addr) (cap n : Nat) (zs : List Int) (h : Elems tInt w B A zs) (hn : zs.length = n) (hm : n ≤ 9223372036854775807) (hr : Hid (zs.all coordB = r)) :
    Calls Try.prog 19 #[.slice A n cap] w fun e w' => e = .returned (.bool r) ∧ w = w' := by
  subst hn
  exact (coordinates_any w B A cap zs h hm).mono fun e w' ⟨he, hw⟩ => ⟨by rw [he, hr.out], hw⟩
theorem ok_is (r : Bool) (w : World) (B : Nat) (A : Option Addr) (cap n : Nat) (zs : List Int) (h : Elems tInt w B A zs) (hn : zs.length = n) (hm : n ≤ 9223372036854775807) (hr : Hid (zs.all coordB = r)) :
    Calls Try.prog 21 #[.slice A n cap] w fun e w' => e = .returned (.bool r) ∧ w = w' := by
  subst hn
  exact (ok_any w B A cap zs h hm).mono fun e w' ⟨he, hw⟩ => ⟨by rw [he, hr.out], hw⟩

set_option maxHeartbeats 1000000 in
/-- Where the numbers are no coordinates or the rectangle is empty. -/
theorem crosses_no (ax ay bx b_y x y x2 y2 : Int) (w : World) (hz : Hid (∀ z ∈ [ax, ay, bx, b_y, x, y, x2, y2], fits z)) (h : inB ax ay bx b_y x y x2 y2 = false) :
    Calls Try.prog 11 #[.agg #[.int .i64 ax, .int .i64 ay], .agg #[.int .i64 bx, .int .i64 b_y], .agg #[.int .i64 x, .int .i64 y, .int .i64 x2, .int .i64 y2]] w
      fun e w' => e = .returned (.bool false) ∧ Below w.heap.size w w' := by
  have H := Lib.hid h
  clear h
  by_cases hc : [ax, ay, bx, b_y, x, y, x2, y2].all coordB = true
  · have Hc := Lib.hid hc
    clear hc
    by_cases h1 : x2 < x
    · go_enter Try.func11, Try.ntmps11
      go_wp2_with fail
      refine (coordinates_is true _ _ _ 8 8 [ax, ay, bx, b_y, x, y, x2, y2] (elems_new _ _ 3 _ (by simp) hz.out) rfl (by omega) Hc).mono ?_
      rintro e w' ⟨rfl, rfl⟩
      go_wp2
      go_ret
      exact ⟨rfl, ((((Below.refl _ _).alloc (by simp) _).alloc (by simp) _).alloc (by simp; omega) _).alloc (by simp; omega) _⟩
    · have h2 : y2 < y := by
        have := H.out
        unfold inB at this
        rw [Hc.out] at this
        simp at this
        omega
      go_enter Try.func11, Try.ntmps11
      go_wp2_with fail
      refine (coordinates_is true _ _ _ 8 8 [ax, ay, bx, b_y, x, y, x2, y2] (elems_new _ _ 3 _ (by simp) hz.out) rfl (by omega) Hc).mono ?_
      rintro e w' ⟨rfl, rfl⟩
      go_wp2
      go_ret
      exact ⟨rfl, ((((Below.refl _ _).alloc (by simp) _).alloc (by simp) _).alloc (by simp; omega) _).alloc (by simp; omega) _⟩
  · have Hc : Hid ([ax, ay, bx, b_y, x, y, x2, y2].all coordB = false) := by
      show _ = false
      simpa only [Bool.not_eq_true] using hc
    clear hc
    go_enter Try.func11, Try.ntmps11
    go_wp2_with fail
    refine (coordinates_is false _ _ _ 8 8 [ax, ay, bx, b_y, x, y, x2, y2] (elems_new _ _ 3 _ (by simp) hz.out) rfl (by omega) Hc).mono ?_
    rintro e w' ⟨rfl, rfl⟩
    go_wp2
    go_ret
    exact ⟨rfl, ((((Below.refl _ _).alloc (by simp) _).alloc (by simp) _).alloc (by simp; omega) _).alloc (by simp; omega) _⟩

theorem inB_out {ax ay bx b_y x y x2 y2 : Int} (h : inB ax ay bx b_y x y x2 y2 = true) :
    [ax, ay, bx, b_y, x, y, x2, y2].all coordB = true ∧ (0 ≤ ax ∧ ax ≤ 10000) ∧ (0 ≤ ay ∧ ay ≤ 10000) ∧ (0 ≤ bx ∧ bx ≤ 10000) ∧ (0 ≤ b_y ∧ b_y ≤ 10000) ∧
      (0 ≤ x ∧ x ≤ x2 ∧ x2 ≤ 10000) ∧ (0 ≤ y ∧ y ≤ y2 ∧ y2 ≤ 10000) := by
  unfold inB at h
  simp only [Bool.and_eq_true, decide_eq_true_eq] at h
  obtain ⟨⟨h0, h1⟩, h2⟩ := h
  refine ⟨h0, ?_⟩
  simp [coordB] at h0
  omega

set_option maxHeartbeats 1000000 in
/-- Where the rectangle lies beside the line. -/
theorem crosses_far (ax ay bx b_y x y x2 y2 : Int) (w : World) (hz : Hid (∀ z ∈ [ax, ay, bx, b_y, x, y, x2, y2], fits z)) (h : inB ax ay bx b_y x y x2 y2 = true) (hf : farB ax ay bx b_y x y x2 y2 = true) :
    Calls Try.prog 11 #[.agg #[.int .i64 ax, .int .i64 ay], .agg #[.int .i64 bx, .int .i64 b_y], .agg #[.int .i64 x, .int .i64 y, .int .i64 x2, .int .i64 y2]] w
      fun e w' => e = .returned (.bool false) ∧ Below w.heap.size w w' := by
  obtain ⟨hc, ⟨a1, a2⟩, ⟨a3, a4⟩, ⟨a5, a6⟩, ⟨a7, a8⟩, ⟨a9, a10, a11⟩, a12, a13, a14⟩ := inB_out h
  have Hc := Lib.hid hc
  clear hc h
  have Hf := Lib.hid hf
  clear hf
  by_cases h1 : max ax bx < x
  · have hmx := ite_max
    have hmn := ite_min
    go_enter Try.func11, Try.ntmps11
    go_wp2_with fail
    refine (coordinates_is true _ _ _ 8 8 [ax, ay, bx, b_y, x, y, x2, y2] (elems_new _ _ 3 _ (by simp) hz.out) rfl (by omega) Hc).mono ?_
    rintro e w' ⟨rfl, rfl⟩
    go_wp2
    go_ret
    exact ⟨rfl, ((((Below.refl _ _).alloc (by simp) _).alloc (by simp) _).alloc (by simp; omega) _).alloc (by simp; omega) _⟩
  by_cases h2 : x2 < min ax bx
  · have hmx := ite_max
    have hmn := ite_min
    go_enter Try.func11, Try.ntmps11
    go_wp2_with fail
    refine (coordinates_is true _ _ _ 8 8 [ax, ay, bx, b_y, x, y, x2, y2] (elems_new _ _ 3 _ (by simp) hz.out) rfl (by omega) Hc).mono ?_
    rintro e w' ⟨rfl, rfl⟩
    go_wp2
    go_ret
    exact ⟨rfl, ((((Below.refl _ _).alloc (by simp) _).alloc (by simp) _).alloc (by simp; omega) _).alloc (by simp; omega) _⟩
  by_cases h3 : max ay b_y < y
  · have hmx := ite_max
    have hmn := ite_min
    go_enter Try.func11, Try.ntmps11
    go_wp2_with fail
    refine (coordinates_is true _ _ _ 8 8 [ax, ay, bx, b_y, x, y, x2, y2] (elems_new _ _ 3 _ (by simp) hz.out) rfl (by omega) Hc).mono ?_
    rintro e w' ⟨rfl, rfl⟩
    go_wp2
    go_ret
    exact ⟨rfl, ((((Below.refl _ _).alloc (by simp) _).alloc (by simp) _).alloc (by simp; omega) _).alloc (by simp; omega) _⟩
  have h4 : y2 < min ay b_y := by
    have := Hf.out
    unfold farB at this
    simp only [h1, h2, h3, decide_false, Bool.false_or, decide_eq_true_eq] at this
    exact this
  have hmx := ite_max
  have hmn := ite_min
  go_enter Try.func11, Try.ntmps11
  go_wp2_with fail
  refine (coordinates_is true _ _ _ 8 8 [ax, ay, bx, b_y, x, y, x2, y2] (elems_new _ _ 3 _ (by simp) hz.out) rfl (by omega) Hc).mono ?_
  rintro e w' ⟨rfl, rfl⟩
  go_wp2
  go_ret
  exact ⟨rfl, ((((Below.refl _ _).alloc (by simp) _).alloc (by simp) _).alloc (by simp; omega) _).alloc (by simp; omega) _⟩

end Go.Proofs.Ytbphalaajhnnjaa
