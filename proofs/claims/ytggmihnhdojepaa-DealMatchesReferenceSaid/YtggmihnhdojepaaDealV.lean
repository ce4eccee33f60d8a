/- Layer 34 (deal): few; the law's sums of lines. -/
import Derived.Test.YtggmihnhdojepaaDealU
import Derived.LoopN
namespace Go.Proofs.Ytggmihnhdojepaa
open Go.RowKit
set_option linter.unusedVariables false
set_option linter.unusedSimpArgs false
attribute [local go_sem] ext_cell ext_frozen lt_ext ext_drew

set_option maxRecDepth 100000 in
set_option maxHeartbeats 2000000 in
theorem lof_any (A : Option Addr) (ls : List Ln) (cap n : Nat) (total q : Int) (w : World) (B : Nat) (h : Elems tLine w B A ls) (hB : B ≤ w.heap.size) (hn : ls.length = n) (hl : n ≤ 60) (hall : ls.all lineB = true) (hq : q ≠ 0) :
    Calls Try.prog 21 #[.agg #[.slice A n cap, .int .i64 total], .int .i64 q] w fun e w' => e = .returned (.int .i64 (partOf q ls)) ∧ Below w.heap.size w w' := by
  subst hn
  have HA := Lib.hid hall
  have hB1 : Below w.heap.size w (w.alloc (.cells #[.slice A ls.length cap, .int .i64 total] 24)) := below_self w _
  have hE := h.keep (hB1.mono hB) (Nat.le_refl _)
  have b0 : Bk (w.alloc (.cells #[.slice A ls.length cap, .int .i64 total] 24)) w.heap.size #[.slice A ls.length cap, .int .i64 total] 24 := Bk.new _ _ _
  have hsz : w.heap.size < (w.alloc (.cells #[.slice A ls.length cap, .int .i64 total] 24)).heap.size := by simp
  have HB1 := Lib.hid hB1
  clear h hall hB1
  go_enter Try.func21, Try.ntmps21
  go_wp2_with fail
  generalize w.alloc (.cells #[.slice A ls.length cap, .int .i64 total] 24) = W at *
  have c0 := b0.cell
  have l0 := b0.lt
  go_loop [5, 6] (fun s i => ∃ k : Nat, k ≤ ls.length ∧ i = .int .i64 k ∧ s = .int .i64 (partOf q (ls.take k))) (fun _ i => ls.length - (intOf i).toNat)
  case atStart => exact ⟨0, by omega, rfl, rfl⟩
  case round =>
    obtain ⟨k, hk, rfl, rfl⟩ := hrel
    obtain ⟨p0, p1⟩ := part_to HA.out q hk
    by_cases hlt : k < ls.length
    · obtain ⟨b, off, kd, a, rfl, hb, Hk, d0, d1, f0, f1⟩ := pick_line hE hlt
      have bw : b < W.heap.size := by omega
      have hPt := partOf_take (kd := q) Hk.out
      have hin := List.all_eq_true.1 HA.out _ (List.mem_of_getElem? Hk.out)
      simp only [lineB, Bool.and_eq_true, decide_eq_true_eq] at hin
      obtain ⟨⟨⟨m1, m2⟩, m3⟩, m4⟩ := hin
      have hjl : (k : Int) < (ls.length : Int) := by omega
      have hj60 : (k : Int) ≤ 60 := by omega
      generalize partOf q (ls.take k) = S at *
      by_cases hkd : kd = q
      · subst hkd
        have Hn : Hid (partOf kd (ls.take (k + 1)) = S + a) := Lib.hid (by rw [hPt]; simp [pickB])
        clear hPt
        go_wp2_with fail
        go_round
        case rel => exact ⟨k + 1, by omega, by go_num, by rw [Hn.out]⟩
        case measure => simp [intOf]; omega
      · have Hn : Hid (partOf q (ls.take (k + 1)) = S) := Lib.hid (by rw [hPt]; simp [pickB, hkd, hq])
        clear hPt
        go_wp2_with fail
        go_round
        case rel => exact ⟨k + 1, by omega, by go_num, by rw [Hn.out]⟩
        case measure => simp [intOf]; omega
    · obtain rfl : k = ls.length := by omega
      rw [List.take_length]
      clear hE
      go_wp2_with fail
      go_ret
      exact ⟨rfl, HB1.out⟩

def shortM (m : Mn) : Bool := decide (m.1.size ≤ 100)
def fewD (ls : List Ln) (ms : List Mn) : Bool := decide (ls.length ≤ 60) && decide (ms.length ≤ 30) && ms.all shortM
set_option maxRecDepth 100000 in
set_option maxHeartbeats 2000000 in
theorem few_any (A : Option Addr) (ls : List Ln) (cap n : Nat) (total : Int) (A2 : Option Addr) (ms : List Mn) (cap2 n2 : Nat) (w : World) (B : Nat) (h2 : Elems tMean w B A2 ms) (hB : B ≤ w.heap.size) (hn : n = ls.length) (hn2 : n2 = ms.length) (hl : n ≤ 9223372036854775807) (hl2 : n2 ≤ 9223372036854775807) :
    Calls Try.prog 11 #[.agg #[.slice A n cap, .int .i64 total], .slice A2 n2 cap2] w fun e w' => e = .returned (.bool (fewD ls ms)) ∧ Below w.heap.size w w' := by
  subst hn2
  obtain ⟨r, hr⟩ : ∃ v, fewD ls ms = v := ⟨_, rfl⟩
  rw [hr]
  unfold fewD at hr
  rw [← hn] at hr
  have Hr := Lib.hid hr
  have hB1 : Below w.heap.size w (w.alloc (.cells #[.slice A n cap, .int .i64 total] 24)) := below_self w _
  have hE := h2.keep (hB1.mono hB) (Nat.le_refl _)
  have b0 : Bk (w.alloc (.cells #[.slice A n cap, .int .i64 total] 24)) w.heap.size #[.slice A n cap, .int .i64 total] 24 := Bk.new _ _ _
  have hsz : w.heap.size < (w.alloc (.cells #[.slice A n cap, .int .i64 total] 24)).heap.size := by simp
  have HB1 := Lib.hid hB1
  clear h2 hr hn hB1
  go_enter Try.func11, Try.ntmps11
  by_cases h30 : ms.length ≤ 30
  · have h30' : (ms.length : Int) ≤ 30 := by omega
    have hr2 : (decide (n ≤ 60) && ms.all shortM) = r := by rw [← Hr.out, decide_eq_true h30, Bool.and_true]
    have Hr2 := Lib.hid hr2
    clear hr2 Hr
    go_wp2_with fail
    generalize w.alloc (.cells #[.slice A n cap, .int .i64 total] 24) = W at *
    have c0 := b0.cell
    have l0 := b0.lt
    go_loop [5] (fun i => ∃ k : Nat, k ≤ ms.length ∧ i = .int .i64 k ∧ (ms.take k).all shortM = true) (fun i => ms.length - (intOf i).toNat)
    case atStart => exact ⟨0, by omega, rfl, rfl⟩
    case round =>
      obtain ⟨k, hk, rfl, hall⟩ := hrel
      have Hall := Lib.hid hall
      clear hall
      by_cases hlt : k < ms.length
      · obtain ⟨b, off, nm, a, rfl, hb, Hk, d0, d1, f0, f1⟩ := pick_mean hE hlt
        have bw : b < W.heap.size := by omega
        have hkl : (k : Int) < (ms.length : Int) := by omega
        have fm : nm.size ≤ 9223372036854775807 := by unfold maxLen at f0; omega
        by_cases hs : nm.size ≤ 100
        · have hs' : (nm.size : Int) ≤ 100 := by omega
          go_wp2_with fail
          go_round
          case rel => exact ⟨k + 1, by omega, by go_num, by rw [List.take_add_one, Hk.out, List.all_append, Hall.out]; simp [shortM, hs]⟩
          case measure => simp [intOf]; omega
        · have hs' : 100 < (nm.size : Int) := by omega
          obtain rfl : r = false := by
            rw [← Hr2.out]
            have : ms.all shortM = false := by
              rw [List.all_eq_false]
              exact ⟨_, List.mem_of_getElem? Hk.out, by simp [shortM, hs]⟩
            rw [this, Bool.and_false]
          go_wp2_with fail
          go_ret
          exact ⟨rfl, HB1.out⟩
      · obtain rfl : k = ms.length := by omega
        have hall := Hall.out
        rw [List.take_length] at hall
        have hr3 : decide (n ≤ 60) = r := by rw [← Hr2.out, hall, Bool.and_true]
        clear hE
        by_cases h60 : n ≤ 60
        · have h60' : (n : Int) ≤ 60 := by omega
          obtain rfl : r = true := by rw [← hr3]; exact decide_eq_true h60
          clear hr3 Hr2 Hall hall
          go_wp2_with fail
          go_ret
          exact ⟨rfl, HB1.out⟩
        · have h60' : 60 < (n : Int) := by omega
          obtain rfl : r = false := by rw [← hr3]; exact decide_eq_false h60
          clear hr3 Hr2 Hall hall
          go_wp2_with fail
          go_ret
          exact ⟨rfl, HB1.out⟩
  · have h30' : 30 < (ms.length : Int) := by omega
    obtain rfl : r = false := by rw [← Hr.out, decide_eq_false h30, Bool.and_false, Bool.false_and]
    clear Hr
    have hm0 : (0 : Int) < (ms.length : Int) := by omega
    go_wp2_with fail
    refine wp_loop_rounds 1 ?_
    rw [rounds_succ]
    go_wp2_with fail
    all_goals go_ret
    all_goals first
      | exact ⟨rfl, HB1.out⟩
      | exact ⟨ret_bool (by simp; omega), HB1.out⟩
      | exact ⟨ret_bool (by simp), HB1.out⟩
end Go.Proofs.Ytggmihnhdojepaa
