/- Layer 9 (sight): what the functions compute, and the walks of the small ones. -/
import Derived.Test.YtbphalaajhnnjaaBase
import Derived.Test.YtbphalaajhnnjaaRows
import Derived.Outline
namespace Go.Proofs.Ytbphalaajhnnjaa
open Go.RowKit
set_option linter.unusedVariables false

def coordB (z : Int) : Bool := decide (0 ≤ z) && decide (z ≤ 10000)

set_option maxHeartbeats 400000 in
theorem coordinates_any (w : World) (B : Nat) (A : Option Addr) (cap : Nat) (zs : List Int) (h : Elems tInt w B A zs) (hm : zs.length ≤ 9223372036854775807) :
    Calls Try.prog 19 #[.slice A zs.length cap] w fun e w' => e = .returned (.bool (zs.all coordB)) ∧ w = w' := by
  go_enter Try.func19, Try.ntmps19
  go_wp2
  go_loop [7] (fun i => ∃ k : Nat, k ≤ zs.length ∧ i = .int .i64 k ∧ zs.all coordB = (zs.drop k).all coordB) (fun i => zs.length - (intOf i).toNat)
  case atStart => exact ⟨0, by omega, rfl, by simp⟩
  case round =>
    obtain ⟨k, hk, rfl, hall⟩ := hrel
    have Hall := Lib.hid hall
    clear hall
    by_cases hlt : k < zs.length
    · obtain ⟨b, off, z, rfl, _, Hz, _, hcell, hlo, hhi⟩ := h.pick_int hlt
      go_wp2
      case roundEnd =>
        go_round
        case rel => exact ⟨k + 1, by omega, by go_num, by rw [Hall.out, Hz.out]; simp [coordB, *]⟩
        case measure => simp [intOf]; omega
      all_goals
        go_ret
        refine ⟨ret_bool ?_, rfl⟩
        rw [Hall.out, Hz.out]
        simp [coordB]
        omega
    · go_wp2
      go_ret
      exact ⟨ret_bool (by rw [Hall.out, List.drop_eq_nil_of_le (by omega)]; rfl), rfl⟩

set_option maxHeartbeats 400000 in
theorem ok_any (w : World) (B : Nat) (A : Option Addr) (cap : Nat) (zs : List Int) (h : Elems tInt w B A zs) (hm : zs.length ≤ 9223372036854775807) :
    Calls Try.prog 21 #[.slice A zs.length cap] w fun e w' => e = .returned (.bool (zs.all coordB)) ∧ w = w' := by
  go_enter Try.func21, Try.ntmps21
  go_wp2
  go_loop [3] (fun i => ∃ k : Nat, k ≤ zs.length ∧ i = .int .i64 k ∧ zs.all coordB = (zs.drop k).all coordB) (fun i => zs.length - (intOf i).toNat)
  case atStart => exact ⟨0, by omega, rfl, by simp⟩
  case round =>
    obtain ⟨k, hk, rfl, hall⟩ := hrel
    have Hall := Lib.hid hall
    clear hall
    by_cases hlt : k < zs.length
    · obtain ⟨b, off, z, rfl, _, Hz, _, hcell, hlo, hhi⟩ := h.pick_int hlt
      go_wp2
      case roundEnd =>
        go_round
        case rel => exact ⟨k + 1, by omega, by go_num, by rw [Hall.out, Hz.out]; simp [coordB, *]⟩
        case measure => simp [intOf]; omega
      all_goals
        go_ret
        refine ⟨ret_bool ?_, rfl⟩
        rw [Hall.out, Hz.out]
        simp [coordB]
        omega
    · go_wp2
      go_ret
      exact ⟨ret_bool (by rw [Hall.out, List.drop_eq_nil_of_le (by omega)]; rfl), rfl⟩

/-- The double of the area of a triangle, as 64 bits have it. -/
def sideZ (ax ay bx b_y px py : Int) : Int := wrap64 (wrap64 (wrap64 (bx - ax) * wrap64 (py - ay)) - wrap64 (wrap64 (b_y - ay) * wrap64 (px - ax)))

set_option maxHeartbeats 400000 in
theorem side_any (ax ay bx b_y px py : Int) (w : World) :
    Calls Try.prog 20 #[.agg #[.int .i64 ax, .int .i64 ay], .agg #[.int .i64 bx, .int .i64 b_y], .agg #[.int .i64 px, .int .i64 py]] w
      fun e w' => e = .returned (.int .i64 (sideZ ax ay bx b_y px py)) ∧ Below w.heap.size w w' := by
  go_enter Try.func20, Try.ntmps20
  go_wp2
  go_ret
  exact ⟨rfl, (((Below.refl _ _).alloc (by simp) _).alloc (by simp) _).alloc (by simp; omega) _⟩

def turnZ (n : Int) : Int := if 0 < n then 1 else if n < 0 then -1 else 0

theorem turnZ_pos {n : Int} (h : 0 < n) : 1 = turnZ n := by unfold turnZ; rw [if_pos h]
theorem turnZ_neg {n : Int} (h : n ≤ 0) (h' : n < 0) : -1 = turnZ n := by unfold turnZ; rw [if_neg (by omega), if_pos h']
theorem turnZ_zero {n : Int} (h : n ≤ 0) (h' : 0 ≤ n) : 0 = turnZ n := by unfold turnZ; rw [if_neg (by omega), if_neg (by omega)]

set_option maxHeartbeats 400000 in
theorem turn_any (ax ay bx b_y px py : Int) (w : World) :
    Calls Try.prog 22 #[.agg #[.int .i64 ax, .int .i64 ay], .agg #[.int .i64 bx, .int .i64 b_y], .agg #[.int .i64 px, .int .i64 py]] w
      fun e w' => e = .returned (.int .i64 (turnZ (sideZ ax ay bx b_y px py))) ∧ Below w.heap.size w w' := by
  go_enter Try.func22, Try.ntmps22
  go_wp2
  all_goals go_ret
  all_goals refine ⟨ret_int ?_, (((Below.refl _ _).alloc (by simp) _).alloc (by simp) _).alloc (by simp; omega) _⟩
  · exact turnZ_pos ‹_›
  · exact turnZ_neg ‹_› ‹_›
  · exact turnZ_zero ‹_› ‹_›
end Go.Proofs.Ytbphalaajhnnjaa
