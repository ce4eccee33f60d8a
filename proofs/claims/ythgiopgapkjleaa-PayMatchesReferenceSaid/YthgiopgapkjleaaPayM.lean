/- Names and bills: what the reference's functions answer. -/
import Derived.Test.YthgiopgapkjleaaPayL
namespace Go.Proofs.Ythgiopgapkjleaa
open Go.RowKit
set_option linter.unusedVariables false
set_option linter.unusedSimpArgs false
attribute [local go_sem] ext_cell ext_frozen lt_ext ext_drew

set_option maxHeartbeats 2000000 in
theorem rname_any (s : ByteArray) (w : World) (hs : s.size ≤ maxLen) : Calls Try.prog 29 #[.string s] w fun e w' => e = .returned (.bool (nameB s)) ∧ w = w' := by
  unfold maxLen at hs
  obtain ⟨r, hr⟩ : ∃ r, nameB s = r := ⟨_, rfl⟩
  rw [hr]
  have Hr := Lib.hid hr
  clear hr
  go_enter Try.func29, Try.ntmps29
  go_wp2
  go_loop [3, 4, 5, 6] (fun i _ _ _ => ∃ k : Nat, k ≤ s.size ∧ i = .int .i64 k ∧ ∀ j, j < k → okAt s j = true) (fun i _ _ _ => s.size - (intOf i).toNat)
  case atStart => exact ⟨0, by omega, rfl, fun j hj => by omega⟩
  case round =>
    obtain ⟨k, hk, rfl, hall⟩ := hrel
    have Hall := Lib.hid hall
    clear hall
    by_cases hlt : k < s.size
    · have hok := okAt_get s k hlt
      have hc0 : (0 : Int) ≤ (s[k].toNat : Int) := by omega
      have hc1 : (s[k].toNat : Int) ≤ 255 := by have := s[k].toNat_lt; omega
      have hcl : ((s[k].toNat : Int) < 48 ∨ (48 ≤ (s[k].toNat : Int) ∧ (s[k].toNat : Int) ≤ 57) ∨ (58 ≤ (s[k].toNat : Int) ∧ (s[k].toNat : Int) ≤ 64) ∨ (65 ≤ (s[k].toNat : Int) ∧ (s[k].toNat : Int) ≤ 90) ∨ (91 ≤ (s[k].toNat : Int) ∧ (s[k].toNat : Int) ≤ 94) ∨ (95 ≤ (s[k].toNat : Int) ∧ (s[k].toNat : Int) ≤ 95) ∨ (96 ≤ (s[k].toNat : Int) ∧ (s[k].toNat : Int) ≤ 96) ∨ (97 ≤ (s[k].toNat : Int) ∧ (s[k].toNat : Int) ≤ 122) ∨ 122 < (s[k].toNat : Int)) := by omega
      have Hok := Lib.hid hok
      clear hok
      have hfin : Hid (okAt s k = true → ∀ j, j < k + 1 → okAt s j = true) := fun h j hj => by
        by_cases hjk : j = k
        · rw [hjk]; exact h
        · exact Hall.out j (by omega)
      have hbad : Hid (okAt s k = false → r = false) := fun h => by rw [← Hr.out]; exact nameB_bad hlt h
      by_cases hk0 : k = 0
      · subst hk0
        rcases hcl with h | ⟨h, h'⟩ | ⟨h, h'⟩ | ⟨h, h'⟩ | ⟨h, h'⟩ | ⟨h, h'⟩ | ⟨h, h'⟩ | ⟨h, h'⟩ | h
        all_goals
          have hv : okC (decide (0 = 0)) (s[0].toNat : Int) = decide (97 ≤ (s[0].toNat : Int) ∧ (s[0].toNat : Int) ≤ 122 ∨ 65 ≤ (s[0].toNat : Int) ∧ (s[0].toNat : Int) ≤ 90) := by unfold okC; simp
          have Hv := Lib.hid hv
          clear hv
          go_wp2
          all_goals first
            | (refine ⟨⟨1, by omega, rfl, hfin.out ?_⟩, ?_⟩
               · rw [Hok.out, Hv.out]; first | (simp; done) | (simp; omega)
               · first | (simp [intOf]; omega) | (simp [intOf]; done))
            | (go_ret; exact ⟨ret_bool (hbad.out (by rw [Hok.out, Hv.out]; first | (simp; done) | (simp; omega))).symm, rfl⟩)
            | (exfalso; simp at *; omega)
      · rcases hcl with h | ⟨h, h'⟩ | ⟨h, h'⟩ | ⟨h, h'⟩ | ⟨h, h'⟩ | ⟨h, h'⟩ | ⟨h, h'⟩ | ⟨h, h'⟩ | h
        all_goals
          have hv : okC (decide (k = 0)) (s[k].toNat : Int) = decide (97 ≤ (s[k].toNat : Int) ∧ (s[k].toNat : Int) ≤ 122 ∨ 65 ≤ (s[k].toNat : Int) ∧ (s[k].toNat : Int) ≤ 90 ∨ ((s[k].toNat : Int) = 95 ∨ 48 ≤ (s[k].toNat : Int) ∧ (s[k].toNat : Int) ≤ 57)) := by unfold okC; simp [hk0]
          have Hv := Lib.hid hv
          clear hv
          have k0 : ¬ (k : Int) = 0 := by omega
          go_wp2
          all_goals first
            | (refine ⟨⟨k + 1, by omega, by go_num, hfin.out ?_⟩, ?_⟩
               · rw [Hok.out, Hv.out]; first | (simp; done) | (simp; omega)
               · first | (simp [intOf]; omega) | (simp [intOf]; done))
            | (go_ret; exact ⟨ret_bool (hbad.out (by rw [Hok.out, Hv.out]; first | (simp; done) | (simp; omega))).symm, rfl⟩)
            | (exfalso; simp at *; omega)
    · obtain rfl : k = s.size := by omega
      have hn := nameB_end Hall.out
      rw [Hr.out] at hn
      have Hn := Lib.hid hn
      clear hn
      go_wp2
      all_goals go_ret
      all_goals exact ⟨ret_bool (by rw [Hn.out]; first | (simp [*]; done) | (simp; omega) | (simp [*]; omega) | (rw [Bool.eq_iff_iff]; simp; omega) | omega), rfl⟩

theorem rname_is (r : Bool) (s : ByteArray) (w : World) (hs : s.size ≤ maxLen) (h : Hid (nameB s = r)) : Calls Try.prog 29 #[.string s] w fun e w' => e = .returned (.bool r) ∧ w = w' := by
  have := rname_any s w hs
  rwa [h.out] at this

set_option maxHeartbeats 2000000 in
theorem rright_any (A : Option Addr) (ls : List Ln) (cap : Nat) (total : Int) (w : World) (B : Nat) (h : Elems tLine w B A ls) (hB : B ≤ w.heap.size) (hl : ls.length ≤ 60) (ht : fits total) :
    Calls Try.prog 28 #[.agg #[.slice A ls.length cap, .int .i64 total]] w fun e w' => e = .returned (.bool (rightB ls total)) ∧ Below w.heap.size w w' := by
  obtain ⟨r, hr⟩ : ∃ v, rightB ls total = v := ⟨_, rfl⟩
  rw [hr]
  have Hr := Lib.hid hr
  clear hr
  unfold fits at ht
  by_cases h36 : 36 < ls.length
  · have : r = false := by rw [← Hr.out]; unfold rightB; rw [decide_eq_false (by omega)]; rfl
    subst this
    go_enter Try.func28, Try.ntmps28
    go_wp2_with fail
    go_ret
    exact ⟨rfl, by (repeat (first | with_reducible exact Below.refl _ _ | with_reducible assumption | with_reducible refine Below.alloc0 ?_ _ | with_reducible refine Below.ext0 ?_ _ | with_reducible refine Below.drew ?_ | with_reducible refine below_drewN ?_ _ | (with_reducible refine Below.setCell (hp := ?hp) ?_ _; case hp => (first | (simp; done) | (simp; omega)))))⟩
  · have h36' : (ls.length : Int) ≤ 36 := by omega
    go_enter Try.func28, Try.ntmps28
    go_wp2_with fail
    refine forget (fun W => Below w.heap.size w W ∧ Bk W w.heap.size #[.slice A ls.length cap, .int .i64 total] 24) ⟨?_, ?_⟩ ?_
    · (repeat (first | with_reducible exact Below.refl _ _ | with_reducible assumption | with_reducible refine Below.alloc0 ?_ _ | with_reducible refine Below.ext0 ?_ _ | with_reducible refine Below.drew ?_ | with_reducible refine below_drewN ?_ _ | (with_reducible refine Below.setCell (hp := ?hp) ?_ _; case hp => (first | (simp; done) | (simp; omega)))))
    · exact Bk.new w _ _
    rintro W ⟨hw, bD⟩
    have hE := h.keep (hw.mono hB) (Nat.le_refl _)
    have hBW : w.heap.size ≤ W.heap.size := hw.size
    have hB' : B ≤ W.heap.size := Nat.le_trans hB hBW
    have HW := Lib.hid hw
    clear hw h hB
    have cD := bD.cell
    have lD := bD.lt
    clear bD
    go_loopw [3, 4, 5] (fun t i _ wr => ∃ (k : Nat) (u : World), k ≤ ls.length ∧ i = .int .i64 k ∧ t = .int .i64 (sumOf (ls.take k)) ∧ (ls.take k).all lineB = true ∧ wr = ext W u) (fun _ i _ _ => ls.length - (intOf i).toNat)
    case atStart =>
      obtain ⟨u, hu⟩ := ext_self W
      exact ⟨0, u, by omega, rfl, rfl, rfl, hu⟩
    case round =>
      obtain ⟨k, u, hk, rfl, rfl, hall, rfl⟩ := hrel
      have hs := sumOf_bd _ hall
      rw [List.length_take_of_le hk] at hs
      obtain ⟨hs1, hs2⟩ := hs
      have Hall := Lib.hid hall
      clear hall
      by_cases hlt : k < ls.length
      · obtain ⟨b, off, kl, a, rfl, hb, Hk, c0, c1, f0, f1⟩ := pick_line hE hlt
        have Hs := Lib.hid (sumOf_take Hk.out)
        have Ha := Lib.hid (all_take Hk.out)
        have bw : b < W.heap.size := by omega
        generalize sumOf (ls.take k) = S at *
        by_cases hL : lineB (kl, a) = true
        · have hL' := hL
          simp only [lineB, Bool.and_eq_true, decide_eq_true_eq] at hL'
          obtain ⟨⟨⟨m1, m2⟩, m3⟩, m4⟩ := hL'
          have HL := Lib.hid hL
          clear hL
          go_wp2_with fail
          go_roundw
          case rel =>
            obtain ⟨v, hv⟩ := ext_alloc W u (.cells #[.int .i64 kl, .int .i64 a] 65)
            refine ⟨k + 1, v, by omega, by go_num, ?_, ?_, hv⟩
            · rw [Hs.out]
            · rw [Ha.out, Hall.out, HL.out]; rfl
          case measure => simp [intOf]; omega
        · rw [Bool.not_eq_true] at hL
          have : r = false := by rw [← Hr.out]; unfold rightB; rw [all_false Hk.out hL]; simp
          subst this
          have hno : kl < 1 ∨ 3 < kl ∨ a < 0 ∨ 1000000000 < a := by
            simp only [lineB, Bool.and_eq_false_iff, decide_eq_false_iff_not] at hL
            omega
          clear hL
          rcases hno with hno | hno | hno | hno
          all_goals
            go_wp2_with fail
            all_goals go_ret
            all_goals exact ⟨rfl, (by have hw := HW.out; (repeat (first | with_reducible exact Below.refl _ _ | with_reducible assumption | with_reducible refine Below.alloc0 ?_ _ | with_reducible refine Below.ext0 ?_ _ | with_reducible refine Below.drew ?_ | with_reducible refine below_drewN ?_ _ | (with_reducible refine Below.setCell (hp := ?hp) ?_ _; case hp => (first | (simp; done) | (simp; omega))))))⟩
      · obtain rfl : k = ls.length := by omega
        clear hE
        have hall' : ls.all lineB = true := by have := Hall.out; rwa [List.take_length] at this
        rw [List.take_length] at hs1 hs2
        rw [List.take_length]
        have hr2 : r = (decide (sumOf ls = total) && decide (sumOf ls ≤ 1000000000)) := by
          rw [← Hr.out]; unfold rightB; rw [hall', decide_eq_true (by omega)]; simp
        have Hr2 := Lib.hid hr2
        clear hr2 hall' Hall Hr
        generalize sumOf ls = S at *
        go_wp2_with fail
        all_goals go_ret
        all_goals exact ⟨ret_bool (by rw [Hr2.out]; simp [*]), (by have hw := HW.out; (repeat (first | with_reducible exact Below.refl _ _ | with_reducible assumption | with_reducible refine Below.alloc0 ?_ _ | with_reducible refine Below.ext0 ?_ _ | with_reducible refine Below.drew ?_ | with_reducible refine below_drewN ?_ _ | (with_reducible refine Below.setCell (hp := ?hp) ?_ _; case hp => (first | (simp; done) | (simp; omega))))))⟩


theorem rright_is (r : Bool) (A : Option Addr) (ls : List Ln) (cap n : Nat) (total : Int) (w : World) (B : Nat) (h : Elems tLine w B A ls) (hB : B ≤ w.heap.size) (hn : ls.length = n) (hl : n ≤ 60) (ht : fits total) (hr : Hid (rightB ls total = r)) :
    Calls Try.prog 28 #[.agg #[.slice A n cap, .int .i64 total]] w fun e w' => e = .returned (.bool r) ∧ Below w.heap.size w w' := by
  subst hn
  have := rright_any A ls cap total w B h hB hl ht
  rwa [hr.out] at this
end Go.Proofs.Ythgiopgapkjleaa
