/- Layer 34 (deal), the reference: the sums of lines; bookings made by value. -/
import Derived.Test.YtggmihnhdojepaaDealL
namespace Go.Proofs.Ytggmihnhdojepaa
open Go.RowKit
set_option linter.unusedVariables false
set_option linter.unusedSimpArgs false
attribute [local go_sem] ext_cell ext_frozen lt_ext ext_drew

set_option maxRecDepth 100000 in
set_option maxHeartbeats 2000000 in
theorem rof_any (A : Option Addr) (ls : List Ln) (cap n : Nat) (total q : Int) (w : World) (B : Nat) (h : Elems tLine w B A ls) (hB : B ≤ w.heap.size) (hn : ls.length = n) (hl : n ≤ 60) (hall : ls.all lineB = true) (hq : q ≠ 0) :
    Calls Try.prog 39 #[.agg #[.slice A n cap, .int .i64 total], .int .i64 q] w fun e w' => e = .returned (.int .i64 (partOf q ls)) ∧ Below w.heap.size w w' := by
  subst hn
  have HA := Lib.hid hall
  have hB1 : Below w.heap.size w (w.alloc (.cells #[.slice A ls.length cap, .int .i64 total] 24)) := below_self w _
  have hE := h.keep (hB1.mono hB) (Nat.le_refl _)
  have b0 : Bk (w.alloc (.cells #[.slice A ls.length cap, .int .i64 total] 24)) w.heap.size #[.slice A ls.length cap, .int .i64 total] 24 := Bk.new _ _ _
  have hsz : w.heap.size < (w.alloc (.cells #[.slice A ls.length cap, .int .i64 total] 24)).heap.size := by simp
  have HB1 := Lib.hid hB1
  clear h hall hB1
  go_enter Try.func39, Try.ntmps39
  go_wp2_with fail
  generalize w.alloc (.cells #[.slice A ls.length cap, .int .i64 total] 24) = W at *
  have c0 := b0.cell
  have l0 := b0.lt
  go_loop [5, 6] (fun s i => ∃ k : Nat, k ≤ ls.length ∧ i = .int .i64 k ∧ s = .int .i64 (partOf q (ls.take k))) (fun _ i => ls.length - (intOf i).toNat)
  case atStart => exact ⟨0, by omega, rfl, rfl⟩
  case round =>
    obtain ⟨k, hk, rfl, rfl⟩ := hrel
    obtain ⟨p0, p1⟩ := part_to HA.out q hk
    by_cases hlt : k < ls.length
    · obtain ⟨b, off, kd, a, rfl, hb, Hk, d0, d1, f0, f1⟩ := pick_line hE hlt
      have bw : b < W.heap.size := by omega
      have hPt := partOf_take (kd := q) Hk.out
      have hin := List.all_eq_true.1 HA.out _ (List.mem_of_getElem? Hk.out)
      simp only [lineB, Bool.and_eq_true, decide_eq_true_eq] at hin
      obtain ⟨⟨⟨m1, m2⟩, m3⟩, m4⟩ := hin
      have hjl : (k : Int) < (ls.length : Int) := by omega
      have hj60 : (k : Int) ≤ 60 := by omega
      generalize partOf q (ls.take k) = S at *
      by_cases hkd : kd = q
      · subst hkd
        have Hn : Hid (partOf kd (ls.take (k + 1)) = S + a) := Lib.hid (by rw [hPt]; simp [pickB])
        clear hPt
        go_wp2_with fail
        go_round
        case rel => exact ⟨k + 1, by omega, by go_num, by rw [Hn.out]⟩
        case measure => simp [intOf]; omega
      · have Hn : Hid (partOf q (ls.take (k + 1)) = S) := Lib.hid (by rw [hPt]; simp [pickB, hkd, hq])
        clear hPt
        go_wp2_with fail
        go_round
        case rel => exact ⟨k + 1, by omega, by go_num, by rw [Hn.out]⟩
        case measure => simp [intOf]; omega
    · obtain rfl : k = ls.length := by omega
      rw [List.take_length]
      clear hE
      go_wp2_with fail
      go_ret
      exact ⟨rfl, HB1.out⟩
end Go.Proofs.Ytggmihnhdojepaa
