/- Layer 34 (deal), the reference's Weights, of three weights. -/
import Derived.Test.YtggmihnhdojepaaDealK
import Derived.LoopN
namespace Go.Proofs.Ytggmihnhdojepaa
open Go.RowKit
set_option linter.unusedVariables false
set_option linter.unusedSimpArgs false
attribute [local go_sem] ext_cell ext_frozen lt_ext ext_drew

theorem good_valid {x : Int} (h : goodW x) : validB x = true := by
  obtain ⟨h1, h2⟩ := h
  unfold validB
  rw [decide_eq_true (show -1000000000 ≤ x by omega), decide_eq_true h2]
  rfl
set_option maxRecDepth 100000 in
set_option maxHeartbeats 4000000 in
theorem rweights_any (wb : Nat) (a b c : Int) (w : World) (hb : Bk w wb #[.int .i64 a, .int .i64 b, .int .i64 c] 3) (ha : goodW a) (hb2 : goodW b) (hc : goodW c) (h0 : 0 < a + b + c) :
    Calls Try.prog 60 #[.slice (some ⟨wb, 0, none⟩) 3 3] w fun e w' => e = .returned (.bool true) ∧ ∃ q, w' = w.drewN q := by
  have V1 := Lib.hid (good_valid ha)
  have V2 := Lib.hid (good_valid hb2)
  have V3 := Lib.hid (good_valid hc)
  have HB := Lib.hid hb
  obtain ⟨a1, a2⟩ := ha
  obtain ⟨b1, b2⟩ := hb2
  obtain ⟨c1, c2⟩ := hc
  have x0 : w.cell? ⟨wb, 0, none⟩ = some (.int .i64 a) := hb.cell 0
  have x1 : w.cell? ⟨wb, 1, none⟩ = some (.int .i64 b) := hb.cell 1
  have x2 : w.cell? ⟨wb, 2, none⟩ = some (.int .i64 c) := hb.cell 2
  have l := hb.lt
  have n1 : ¬ a < 0 := by omega
  have n2 : ¬ b < 0 := by omega
  have n3 : ¬ c < 0 := by omega
  have g1 : decide (a < 0) = false := decide_eq_false n1
  have g2 : decide (b < 0) = false := decide_eq_false n2
  have g3 : decide (c < 0) = false := decide_eq_false n3
  clear hb
  go_enter Try.func60, Try.ntmps60
  go_wp2_with fail
  go_loopw [3, 4] (fun s i wr => ∃ (k q : Nat) (r : Bool), k ≤ 3 ∧ i = .int .i64 k ∧ s = .bool r ∧ wr = w.drewN q ∧ (r = true ↔ (1 ≤ k ∧ 0 < a) ∨ (2 ≤ k ∧ 0 < b) ∨ (3 ≤ k ∧ 0 < c))) (fun _ i _ => 3 - (intOf i).toNat)
  case atStart => exact ⟨0, 0, false, by omega, rfl, rfl, rfl, by simp⟩
  case round =>
    obtain ⟨k, q, r, hk, rfl, rfl, rfl, hr⟩ := hrel
    have hk4 : k = 0 ∨ k = 1 ∨ k = 2 ∨ k = 3 := by omega
    have HR := Lib.hid hr
    clear hr
    rcases hk4 with rfl | rfl | rfl | rfl
    · cases r
      · by_cases hp : 0 < a
        · go_wp2_with (go_at_call 53; refine (rvalid_is true _ _ V1).mono ?_; rintro e w' ⟨rfl, rfl⟩)
          refine ⟨⟨1, q, true, by omega, rfl, rfl, rfl, ?_⟩, by simp [intOf]⟩
          simp only [true_iff]
          omega
        · have gp : decide (0 < a) = false := decide_eq_false hp
          go_wp2_with (go_at_call 53; refine (rvalid_is true _ _ V1).mono ?_; rintro e w' ⟨rfl, rfl⟩)
          refine ⟨⟨1, q, false, by omega, rfl, by first | rfl | rw [gp], rfl, ?_⟩, by simp [intOf]⟩
          have hr := HR.out
          simp only [Bool.false_eq_true, false_iff] at hr ⊢
          omega
      · go_wp2_with (go_at_call 53; refine (rvalid_is true _ _ V1).mono ?_; rintro e w' ⟨rfl, rfl⟩)
        refine ⟨⟨1, q, true, by omega, rfl, rfl, rfl, ?_⟩, by simp [intOf]⟩
        have hr := HR.out
        simp only [true_iff] at hr ⊢
        omega
    · cases r
      · by_cases hp : 0 < b
        · go_wp2_with (go_at_call 53; refine (rvalid_is true _ _ V2).mono ?_; rintro e w' ⟨rfl, rfl⟩)
          refine ⟨⟨2, q, true, by omega, rfl, rfl, rfl, ?_⟩, by simp [intOf]⟩
          simp only [true_iff]
          omega
        · have gp : decide (0 < b) = false := decide_eq_false hp
          go_wp2_with (go_at_call 53; refine (rvalid_is true _ _ V2).mono ?_; rintro e w' ⟨rfl, rfl⟩)
          refine ⟨⟨2, q, false, by omega, rfl, by first | rfl | rw [gp], rfl, ?_⟩, by simp [intOf]⟩
          have hr := HR.out
          simp only [Bool.false_eq_true, false_iff] at hr ⊢
          omega
      · go_wp2_with (go_at_call 53; refine (rvalid_is true _ _ V2).mono ?_; rintro e w' ⟨rfl, rfl⟩)
        refine ⟨⟨2, q, true, by omega, rfl, rfl, rfl, ?_⟩, by simp [intOf]⟩
        have hr := HR.out
        simp only [true_iff] at hr ⊢
        omega
    · cases r
      · by_cases hp : 0 < c
        · go_wp2_with (go_at_call 53; refine (rvalid_is true _ _ V3).mono ?_; rintro e w' ⟨rfl, rfl⟩)
          refine ⟨⟨3, q, true, by omega, rfl, rfl, rfl, ?_⟩, by simp [intOf]⟩
          simp only [true_iff]
          omega
        · have gp : decide (0 < c) = false := decide_eq_false hp
          go_wp2_with (go_at_call 53; refine (rvalid_is true _ _ V3).mono ?_; rintro e w' ⟨rfl, rfl⟩)
          refine ⟨⟨3, q, false, by omega, rfl, by first | rfl | rw [gp], rfl, ?_⟩, by simp [intOf]⟩
          have hr := HR.out
          simp only [Bool.false_eq_true, false_iff] at hr ⊢
          omega
      · go_wp2_with (go_at_call 53; refine (rvalid_is true _ _ V3).mono ?_; rintro e w' ⟨rfl, rfl⟩)
        refine ⟨⟨3, q, true, by omega, rfl, rfl, rfl, ?_⟩, by simp [intOf]⟩
        have hr := HR.out
        simp only [true_iff] at hr ⊢
        omega
    · obtain rfl : r = true := HR.out.2 (by omega)
      go_wp2_with fail
      go_ret
      exact ⟨rfl, q, rfl⟩
end Go.Proofs.Ytggmihnhdojepaa
