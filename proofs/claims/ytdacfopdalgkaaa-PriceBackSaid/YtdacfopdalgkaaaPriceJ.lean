/- Layer 17 (price): Back, Top, and the reference's. -/
import Derived.Test.YtdacfopdalgkaaaPriceI
namespace Go.Proofs.Ytdacfopdalgkaaa
open Go.RowKit
set_option linter.unusedVariables false
set_option linter.unusedSimpArgs false
attribute [local go_sem] ext_cell ext_frozen lt_ext ext_drew

theorem ext_alloc (W u : World) (o : Obj) : ∃ v, (ext W u).alloc o = ext W v := by
  obtain ⟨v, hv⟩ := ext_of (((below_ext W u).alloc (size_ext W u) o))
  exact ⟨v, hv.symm⟩

section
variable (A : Option Addr) (ls : List Ln) (cap n : Nat) (total num den : Int) (w : World) (B : Nat)

set_option maxHeartbeats 1000000 in
theorem back_any (h : Elems tLine w B A ls) (hB : B ≤ w.heap.size) (hn : ls.length = n) (hl : n ≤ 60) (ht : fits total) :
    Calls Try.prog 12 #[.agg #[.slice A n cap, .int .i64 total], .agg #[.int .i64 num, .int .i64 den]] w
      fun e w' => e = .returned (.tuple #[.int .i64 (backV 0 ls total num den), .int .i64 (backE 0 ls total num den)]) ∧ Below w.heap.size w w' := by
  subst hn
  have HH := Lib.hid h
  clear h
  go_enter Try.func12, Try.ntmps12
  go_wp2_with fail
  refine (share_part 0 A ls cap total num den _ B (HH.out.keep (((Below.refl _ _).alloc hB _).alloc (by simp; omega) _) (Nat.le_refl _)) (by simp; omega) hl ht).mono ?_
  rintro e w' ⟨rfl, hb⟩
  have Hb := Lib.hid hb
  clear hb
  go_wp2_with fail
  go_ret2
  exact ⟨rfl, ((below_self w _).alloc (by simp) _).trans (Hb.out.mono (by simp; omega))⟩

set_option maxHeartbeats 1000000 in
theorem top_any (h : Elems tLine w B A ls) (hB : B ≤ w.heap.size) (hn : ls.length = n) (hl : n ≤ 60) (ht : fits total) :
    Calls Try.prog 14 #[.agg #[.slice A n cap, .int .i64 total], .agg #[.int .i64 num, .int .i64 den]] w
      fun e w' => e = .returned (.tuple #[.int .i64 (backV 1 ls total num den), .int .i64 (backE 1 ls total num den)]) ∧ Below w.heap.size w w' := by
  subst hn
  have HH := Lib.hid h
  clear h
  go_enter Try.func14, Try.ntmps14
  go_wp2_with fail
  refine (share_part 1 A ls cap total num den _ B (HH.out.keep (((Below.refl _ _).alloc hB _).alloc (by simp; omega) _) (Nat.le_refl _)) (by simp; omega) hl ht).mono ?_
  rintro e w' ⟨rfl, hb⟩
  have Hb := Lib.hid hb
  clear hb
  go_wp2_with fail
  go_ret2
  exact ⟨rfl, ((below_self w _).alloc (by simp) _).trans (Hb.out.mono (by simp; omega))⟩

set_option maxHeartbeats 2000000 in
theorem right_any (h : Elems tLine w B A ls) (hB : B ≤ w.heap.size) (hl : ls.length ≤ 60) (ht : fits total) :
    Calls Try.prog 18 #[.agg #[.slice A ls.length cap, .int .i64 total]] w fun e w' => e = .returned (.bool (rightB ls total)) ∧ Below w.heap.size w w' := by
  obtain ⟨r, hr⟩ : ∃ v, rightB ls total = v := ⟨_, rfl⟩
  rw [hr]
  have Hr := Lib.hid hr
  clear hr
  unfold fits at ht
  by_cases h36 : 36 < ls.length
  · have : r = false := by rw [← Hr.out]; unfold rightB; rw [decide_eq_false (by omega)]; rfl
    subst this
    go_enter Try.func18, Try.ntmps18
    go_wp2_with fail
    go_ret
    exact ⟨rfl, by (repeat (first | with_reducible exact Below.refl _ _ | with_reducible assumption | with_reducible refine Below.alloc0 ?_ _ | with_reducible refine Below.ext0 ?_ _ | with_reducible refine Below.drew ?_ | with_reducible refine below_drewN ?_ _ | (with_reducible refine Below.setCell (hp := ?hp) ?_ _; case hp => (first | (simp; done) | (simp; omega)))))⟩
  · have h36' : (ls.length : Int) ≤ 36 := by omega
    go_enter Try.func18, Try.ntmps18
    go_wp2_with fail
    refine forget (fun W => Below w.heap.size w W ∧ Bk W w.heap.size #[.slice A ls.length cap, .int .i64 total] 28) ⟨?_, ?_⟩ ?_
    · (repeat (first | with_reducible exact Below.refl _ _ | with_reducible assumption | with_reducible refine Below.alloc0 ?_ _ | with_reducible refine Below.ext0 ?_ _ | with_reducible refine Below.drew ?_ | with_reducible refine below_drewN ?_ _ | (with_reducible refine Below.setCell (hp := ?hp) ?_ _; case hp => (first | (simp; done) | (simp; omega)))))
    · exact Bk.new w _ _
    rintro W ⟨hw, bD⟩
    have hE := h.keep (hw.mono hB) (Nat.le_refl _)
    have hBW : w.heap.size ≤ W.heap.size := hw.size
    have hB' : B ≤ W.heap.size := Nat.le_trans hB hBW
    have HW := Lib.hid hw
    clear hw h hB
    have cD := bD.cell
    have lD := bD.lt
    clear bD
    go_loopw [3, 4, 5] (fun t i _ wr => ∃ (k : Nat) (u : World), k ≤ ls.length ∧ i = .int .i64 k ∧ t = .int .i64 (sumOf (ls.take k)) ∧ (ls.take k).all lineB = true ∧ wr = ext W u) (fun _ i _ _ => ls.length - (intOf i).toNat)
    case atStart =>
      obtain ⟨u, hu⟩ := ext_self W
      exact ⟨0, u, by omega, rfl, rfl, rfl, hu⟩
    case round =>
      obtain ⟨k, u, hk, rfl, rfl, hall, rfl⟩ := hrel
      have hs := sumOf_bd _ hall
      rw [List.length_take_of_le hk] at hs
      obtain ⟨hs1, hs2⟩ := hs
      have Hall := Lib.hid hall
      clear hall
      by_cases hlt : k < ls.length
      · obtain ⟨b, off, kl, a, rfl, hb, Hk, c0, c1, f0, f1⟩ := pick_line hE hlt
        have Hs := Lib.hid (sumOf_take Hk.out)
        have Ha := Lib.hid (all_take Hk.out)
        have bw : b < W.heap.size := by omega
        generalize sumOf (ls.take k) = S at *
        by_cases hL : lineB (kl, a) = true
        · have hL' := hL
          simp only [lineB, Bool.and_eq_true, decide_eq_true_eq] at hL'
          obtain ⟨⟨⟨m1, m2⟩, m3⟩, m4⟩ := hL'
          have HL := Lib.hid hL
          clear hL
          go_wp2_with fail
          go_roundw
          case rel =>
            obtain ⟨v, hv⟩ := ext_alloc W u (.cells #[.int .i64 kl, .int .i64 a] 38)
            refine ⟨k + 1, v, by omega, by go_num, ?_, ?_, hv⟩
            · rw [Hs.out]
            · rw [Ha.out, Hall.out, HL.out]; rfl
          case measure => simp [intOf]; omega
        · rw [Bool.not_eq_true] at hL
          have : r = false := by rw [← Hr.out]; unfold rightB; rw [all_false Hk.out hL]; simp
          subst this
          have hno : kl < 1 ∨ 3 < kl ∨ a < 0 ∨ 1000000000 < a := by
            simp only [lineB, Bool.and_eq_false_iff, decide_eq_false_iff_not] at hL
            omega
          clear hL
          rcases hno with hno | hno | hno | hno
          all_goals
            go_wp2_with fail
            all_goals go_ret
            all_goals exact ⟨rfl, (by have hw := HW.out; (repeat (first | with_reducible exact Below.refl _ _ | with_reducible assumption | with_reducible refine Below.alloc0 ?_ _ | with_reducible refine Below.ext0 ?_ _ | with_reducible refine Below.drew ?_ | with_reducible refine below_drewN ?_ _ | (with_reducible refine Below.setCell (hp := ?hp) ?_ _; case hp => (first | (simp; done) | (simp; omega))))))⟩
      · obtain rfl : k = ls.length := by omega
        clear hE
        have hall' : ls.all lineB = true := by have := Hall.out; rwa [List.take_length] at this
        rw [List.take_length] at hs1 hs2
        rw [List.take_length]
        have hr2 : r = (decide (sumOf ls = total) && decide (sumOf ls ≤ 1000000000)) := by
          rw [← Hr.out]; unfold rightB; rw [hall', decide_eq_true (by omega)]; simp
        have Hr2 := Lib.hid hr2
        clear hr2 hall' Hall Hr
        generalize sumOf ls = S at *
        go_wp2_with fail
        all_goals go_ret
        all_goals exact ⟨ret_bool (by rw [Hr2.out]; simp [*]), (by have hw := HW.out; (repeat (first | with_reducible exact Below.refl _ _ | with_reducible assumption | with_reducible refine Below.alloc0 ?_ _ | with_reducible refine Below.ext0 ?_ _ | with_reducible refine Below.drew ?_ | with_reducible refine below_drewN ?_ _ | (with_reducible refine Below.setCell (hp := ?hp) ?_ _; case hp => (first | (simp; done) | (simp; omega))))))⟩

set_option maxHeartbeats 2000000 in
theorem face_any (h : Elems tLine w B A ls) (hB : B ≤ w.heap.size) (hl : ls.length ≤ 60) (hall : ls.all lineB = true) :
    Calls Try.prog 20 #[.agg #[.slice A ls.length cap, .int .i64 total]] w fun e w' => e = .returned (.int .i64 (partOf 1 ls)) ∧ Below w.heap.size w w' := by
  have Hall := Lib.hid hall
  clear hall
  go_enter Try.func20, Try.ntmps20
  go_wp2_with fail
  refine forget (fun W => Below w.heap.size w W ∧ Bk W w.heap.size #[.slice A ls.length cap, .int .i64 total] 28) ⟨?_, ?_⟩ ?_
  · (repeat (first | with_reducible exact Below.refl _ _ | with_reducible assumption | with_reducible refine Below.alloc0 ?_ _ | with_reducible refine Below.ext0 ?_ _ | with_reducible refine Below.drew ?_ | with_reducible refine below_drewN ?_ _ | (with_reducible refine Below.setCell (hp := ?hp) ?_ _; case hp => (first | (simp; done) | (simp; omega)))))
  · exact Bk.new w _ _
  rintro W ⟨hw, bD⟩
  have hE := h.keep (hw.mono hB) (Nat.le_refl _)
  have hBW : w.heap.size ≤ W.heap.size := hw.size
  have hB' : B ≤ W.heap.size := Nat.le_trans hB hBW
  have HW := Lib.hid hw
  clear hw h hB
  have cD := bD.cell
  have lD := bD.lt
  clear bD
  go_loop [3, 4] (fun t i => ∃ (k : Nat), k ≤ ls.length ∧ i = .int .i64 k ∧ t = .int .i64 (partOf 1 (ls.take k))) (fun _ i => ls.length - (intOf i).toNat)
  case atStart => exact ⟨0, by omega, rfl, rfl⟩
  case round =>
    obtain ⟨k, hk, rfl, rfl⟩ := hrel
    have hall : (ls.take k).all lineB = true := by
      rw [List.all_eq_true]; intro l hl'; exact List.all_eq_true.1 Hall.out l (List.mem_of_mem_take hl')
    have hs := sumOf_bd _ hall
    have hp := partOf_bd 1 _ hall
    rw [List.length_take_of_le hk] at hs
    obtain ⟨hs1, hs2⟩ := hs
    obtain ⟨hp1, hp2⟩ := hp
    clear hall
    by_cases hlt : k < ls.length
    · obtain ⟨b, off, kl, a, rfl, hb, Hk, c0, c1, f0, f1⟩ := pick_line hE hlt
      have Hp := Lib.hid (partOf_take (kd := 1) Hk.out)
      have bw : b < W.heap.size := by omega
      have hL' := List.all_eq_true.1 Hall.out _ (List.mem_of_getElem? Hk.out)
      simp only [lineB, Bool.and_eq_true, decide_eq_true_eq] at hL'
      obtain ⟨⟨⟨m1, m2⟩, m3⟩, m4⟩ := hL'
      generalize sumOf (ls.take k) = S at *
      generalize partOf 1 (ls.take k) = N at *
      by_cases h1 : kl = 1
      · go_wp2_with fail
        go_round
        case rel => exact ⟨k + 1, by omega, by go_num, by rw [Hp.out, if_pos (by simp [pickB, h1])]⟩
        case measure => simp [intOf]; omega
      · go_wp2_with fail
        go_round
        case rel => exact ⟨k + 1, by omega, by go_num, by rw [Hp.out, if_neg (by simp [pickB, h1]), Int.add_zero]⟩
        case measure => simp [intOf]; omega
    · obtain rfl : k = ls.length := by omega
      rw [List.take_length]
      go_wp2_with fail
      go_ret
      exact ⟨rfl, HW.out⟩

set_option maxHeartbeats 1000000 in
theorem rback_any (h : Elems tLine w B A ls) (hB : B ≤ w.heap.size) (hn : ls.length = n) (hl : n ≤ 60) (ht : fits total) :
    Calls Try.prog 13 #[.agg #[.slice A n cap, .int .i64 total], .agg #[.int .i64 num, .int .i64 den]] w
      fun e w' => e = .returned (.tuple #[.int .i64 (backV 0 ls total num den), .int .i64 (backE 0 ls total num den)]) ∧ Below w.heap.size w w' := by
  subst hn
  obtain ⟨r, hr⟩ : ∃ v, rightB ls total = v := ⟨_, rfl⟩
  have Hr := Lib.hid hr
  clear hr
  have HH := Lib.hid h
  clear h
  obtain ⟨bv, hbv⟩ : ∃ v, backV 0 ls total num den = v := ⟨_, rfl⟩
  obtain ⟨be, hbe⟩ : ∃ v, backE 0 ls total num den = v := ⟨_, rfl⟩
  rw [hbv, hbe]
  have Hbv := Lib.hid hbv
  have Hbe := Lib.hid hbe
  clear hbv hbe
  go_enter Try.func13, Try.ntmps13
  go_wp2_with fail
  refine (right_any A ls cap total _ B (HH.out.keep (((Below.refl _ _).alloc hB _).alloc (by simp; omega) _) (Nat.le_refl _)) (by simp; omega) hl ht).mono ?_
  rintro e w' ⟨rfl, hb⟩
  obtain ⟨u, rfl⟩ := ext_of hb
  clear hb
  rw [Hr.out]
  cases r
  · have h1 := Hbv.out; have h2 := Hbe.out
    unfold backV at h1; unfold backE at h2
    rw [Hr.out] at h1 h2
    obtain rfl : bv = 0 := h1.symm
    obtain rfl : be = 1 := h2.symm
    clear h1 h2
    go_wp2_with fail
    go_ret2
    exact ⟨rfl, by (repeat (first | with_reducible exact Below.refl _ _ | with_reducible assumption | with_reducible refine Below.alloc0 ?_ _ | with_reducible refine Below.ext0 ?_ _ | with_reducible refine Below.drew ?_ | with_reducible refine below_drewN ?_ _ | (with_reducible refine Below.setCell (hp := ?hp) ?_ _; case hp => (first | (simp; done) | (simp; omega)))))⟩
  · have h1 := Hbv.out; have h2 := Hbe.out
    unfold backV at h1; unfold backE at h2
    rw [if_pos Hr.out] at h1 h2
    have hsum : partOf 0 ls = total := by
      have := Hr.out
      simp only [rightB, Bool.and_eq_true, decide_eq_true_eq] at this
      rw [← this.1.2]
      unfold partOf
      rw [List.filter_eq_self.2 (fun l _ => by simp [pickB])]
    rw [hsum] at h1 h2
    have Hh1 := Lib.hid h1
    have Hh2 := Lib.hid h2
    clear h1 h2 hsum
    go_wp2_with (go_at_call 27; refine (rshare_two _ _ _ _ _ _ Hh1 Hh2).mono ?_; rintro e w' ⟨rfl, hb⟩; (first | (obtain ⟨u, rfl⟩ := ext_more hb; clear hb) | (obtain ⟨u, rfl⟩ := ext_more_alloc hb; clear hb) | (obtain ⟨u, rfl⟩ := ext_of hb; clear hb)))
    go_ret2
    exact ⟨rfl, by (repeat (first | with_reducible exact Below.refl _ _ | with_reducible assumption | with_reducible refine Below.alloc0 ?_ _ | with_reducible refine Below.ext0 ?_ _ | with_reducible refine Below.drew ?_ | with_reducible refine below_drewN ?_ _ | (with_reducible refine Below.setCell (hp := ?hp) ?_ _; case hp => (first | (simp; done) | (simp; omega)))))⟩

set_option maxHeartbeats 1000000 in
theorem rtop_any (h : Elems tLine w B A ls) (hB : B ≤ w.heap.size) (hn : ls.length = n) (hl : n ≤ 60) (ht : fits total) :
    Calls Try.prog 15 #[.agg #[.slice A n cap, .int .i64 total], .agg #[.int .i64 num, .int .i64 den]] w
      fun e w' => e = .returned (.tuple #[.int .i64 (backV 1 ls total num den), .int .i64 (backE 1 ls total num den)]) ∧ Below w.heap.size w w' := by
  subst hn
  obtain ⟨r, hr⟩ : ∃ v, rightB ls total = v := ⟨_, rfl⟩
  have Hr := Lib.hid hr
  clear hr
  have HH := Lib.hid h
  clear h
  obtain ⟨bv, hbv⟩ : ∃ v, backV 1 ls total num den = v := ⟨_, rfl⟩
  obtain ⟨be, hbe⟩ : ∃ v, backE 1 ls total num den = v := ⟨_, rfl⟩
  rw [hbv, hbe]
  have Hbv := Lib.hid hbv
  have Hbe := Lib.hid hbe
  clear hbv hbe
  have HE0 := Lib.hid (HH.out.keep (((Below.refl _ _).alloc hB (.cells #[.slice A ls.length cap, .int .i64 total] 28)).alloc (by simp; omega) (.cells #[.int .i64 num, .int .i64 den] 23)) (Nat.le_refl _))
  have hB2 : B ≤ ((w.alloc (.cells #[.slice A ls.length cap, .int .i64 total] 28)).alloc (.cells #[.int .i64 num, .int .i64 den] 23)).heap.size := by simp; omega
  have HB2 := Lib.hid hB2
  clear hB2
  go_enter Try.func15, Try.ntmps15
  go_wp2_with fail
  refine (right_any A ls cap total _ B HE0.out HB2.out hl ht).mono ?_
  rintro e w' ⟨rfl, hb⟩
  obtain ⟨u, rfl⟩ := ext_of hb
  clear hb
  rw [Hr.out]
  cases r
  · have h1 := Hbv.out; have h2 := Hbe.out
    unfold backV at h1; unfold backE at h2
    rw [Hr.out] at h1 h2
    obtain rfl : bv = 0 := h1.symm
    obtain rfl : be = 1 := h2.symm
    clear h1 h2
    go_wp2_with fail
    go_ret2
    exact ⟨rfl, by (repeat (first | with_reducible exact Below.refl _ _ | with_reducible assumption | with_reducible refine Below.alloc0 ?_ _ | with_reducible refine Below.ext0 ?_ _ | with_reducible refine Below.drew ?_ | with_reducible refine below_drewN ?_ _ | (with_reducible refine Below.setCell (hp := ?hp) ?_ _; case hp => (first | (simp; done) | (simp; omega)))))⟩
  · have h1 := Hbv.out; have h2 := Hbe.out
    unfold backV at h1; unfold backE at h2
    rw [if_pos Hr.out] at h1 h2
    have Hall : Hid (ls.all lineB = true) := by
      have := Hr.out
      simp only [rightB, Bool.and_eq_true, decide_eq_true_eq] at this
      exact this.1.1.2
    obtain ⟨N, hN⟩ : ∃ v, partOf 1 ls = v := ⟨_, rfl⟩
    rw [hN] at h1 h2
    have HN := Lib.hid hN
    have Hh1 := Lib.hid h1
    have Hh2 := Lib.hid h2
    clear h1 h2 hN
    have hface : ∀ v, Calls Try.prog 20 #[.agg #[.slice A ls.length cap, .int .i64 total]] (ext ((w.alloc (.cells #[.slice A ls.length cap, .int .i64 total] 28)).alloc (.cells #[.int .i64 num, .int .i64 den] 23)) v) fun e w' => e = .returned (.int .i64 N) ∧ Below (ext ((w.alloc (.cells #[.slice A ls.length cap, .int .i64 total] 28)).alloc (.cells #[.int .i64 num, .int .i64 den] 23)) v).heap.size (ext ((w.alloc (.cells #[.slice A ls.length cap, .int .i64 total] 28)).alloc (.cells #[.int .i64 num, .int .i64 den] 23)) v) w' := fun v =>
      (face_any A ls cap total _ B (HE0.out.ext HB2.out v) (Nat.le_trans HB2.out (size_ext _ v)) hl Hall.out).mono fun e w' ⟨he, hb⟩ => ⟨by rw [he, HN.out], hb⟩
    have Hface := Lib.hid hface
    clear hface
    go_wp2_with fail
    refine wp_region_more _ _ (by kernel_rfl) (by kernel_rfl) ?_
    repeat (go_big_quiet_step (first
      | (go_at_call 20; exact Calls.in_ext (Hface.out _))
      | (go_at_call 27; exact Calls.in_ext (rshare_two _ _ _ _ _ _ Hh1 Hh2))))
    refine wpQuiet_nil (fun v => ?_)
    go_wp2_with fail
    go_ret2
    exact ⟨rfl, by (repeat (first | with_reducible exact Below.refl _ _ | with_reducible assumption | with_reducible refine Below.alloc0 ?_ _ | with_reducible refine Below.ext0 ?_ _ | with_reducible refine Below.drew ?_ | with_reducible refine below_drewN ?_ _ | (with_reducible refine Below.setCell (hp := ?hp) ?_ _; case hp => (first | (simp; done) | (simp; omega)))))⟩
end
end Go.Proofs.Ytdacfopdalgkaaa
