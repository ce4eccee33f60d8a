/- Layer 17 (price): Back and Top. -/
import Derived.Test.YtdacfopdalgkaaaPriceH
namespace Go.Proofs.Ytdacfopdalgkaaa
open Go.RowKit
set_option linter.unusedVariables false
set_option linter.unusedSimpArgs false
attribute [local go_sem] ext_cell ext_frozen lt_ext ext_drew

def pickB (kd : Int) (l : Ln) : Bool := kd == 0 || l.1 == kd
def partOf (kd : Int) (ls : List Ln) : Int := sumOf (ls.filter (pickB kd))

theorem has_any (kd k a : Int) (w : World) : Calls Try.prog 29 #[.int .i64 kd, .agg #[.int .i64 k, .int .i64 a]] w fun e w' => e = .returned (.bool (pickB kd (k, a))) ∧ Below w.heap.size w w' := by
  go_enter Try.func29, Try.ntmps29
  go_wp2
  all_goals go_ret
  all_goals exact ⟨ret_bool (by simp [pickB, *]), (Below.refl _ _).alloc (by simp) _⟩
theorem has_is (r : Bool) (kd k a : Int) (w : World) (h : Hid (pickB kd (k, a) = r)) : Calls Try.prog 29 #[.int .i64 kd, .agg #[.int .i64 k, .int .i64 a]] w fun e w' => e = .returned (.bool r) ∧ Below w.heap.size w w' :=
  (has_any kd k a w).mono fun e w' ⟨he, hw⟩ => ⟨by rw [he, h.out], hw⟩

/-- A line at hand. -/
theorem pick_line {w : World} {B : Nat} {A : Option Addr} {ls : List Ln} (h : Elems tLine w B A ls) {k : Nat} (hk : k < ls.length) :
    ∃ b off kd a, A = some ⟨b, off, none⟩ ∧ b < B ∧ Hid (ls[k]? = some (kd, a)) ∧ w.cell? ⟨b, off + k * 2, none⟩ = some (.int .i64 kd) ∧ w.cell? ⟨b, off + k * 2 + 1, none⟩ = some (.int .i64 a) ∧ fits kd ∧ fits a := by
  obtain ⟨b, off, ⟨kd, a⟩, cs, hA, hb, _, hx, _, ⟨c1, c2, rfl, ⟨rfl, h1⟩, ⟨rfl, h2⟩⟩, hc⟩ := h.pick hk
  exact ⟨b, off, kd, a, hA, hb, hx, hc 0 _ rfl, hc 1 _ rfl, h1, h2⟩

theorem sumOf_take {ls : List Ln} {k : Nat} {l : Ln} (h : ls[k]? = some l) : sumOf (ls.take (k + 1)) = sumOf (ls.take k) + l.2 := by
  rw [List.take_add_one, h, sumOf_append]
  simp [sumOf]
theorem partOf_take {kd : Int} {ls : List Ln} {k : Nat} {l : Ln} (h : ls[k]? = some l) : partOf kd (ls.take (k + 1)) = partOf kd (ls.take k) + (if pickB kd l then l.2 else 0) := by
  unfold partOf
  rw [List.take_add_one, h, List.filter_append, sumOf_append]
  congr 1
  by_cases hp : pickB kd l = true <;> simp [hp, sumOf]
theorem all_take {ls : List Ln} {k : Nat} {l : Ln} (h : ls[k]? = some l) : (ls.take (k + 1)).all lineB = ((ls.take k).all lineB && lineB l) := by
  rw [List.take_add_one, h, List.all_append]
  simp
theorem all_false {ls : List Ln} {k : Nat} {l : Ln} (h : ls[k]? = some l) (hl : lineB l = false) : ls.all lineB = false := by
  rw [Bool.eq_false_iff]
  intro hall
  have := List.all_eq_true.1 hall l (List.mem_of_getElem? h)
  rw [hl] at this; cases this
theorem partOf_bd (kd : Int) (ls : List Ln) (h : ls.all lineB = true) : 0 ≤ partOf kd ls ∧ partOf kd ls ≤ sumOf ls := by
  unfold partOf
  induction ls with
  | nil => simp [sumOf]
  | cons l ls ih =>
    simp only [List.all_cons, Bool.and_eq_true] at h
    have := ih h.2
    have hl := h.1
    simp only [lineB, Bool.and_eq_true, decide_eq_true_eq] at hl
    rw [List.filter_cons]
    split
    · rw [sumOf_cons, sumOf_cons]; omega
    · rw [sumOf_cons]; omega

def backV (kd : Int) (ls : List Ln) (total num den : Int) : Int := if rightB ls total then shareV (partOf kd ls) num den else 0
def backE (kd : Int) (ls : List Ln) (total num den : Int) : Int := if rightB ls total then shareE (partOf kd ls) num den else 1

theorem ext_self (W : World) : ∃ u, W = ext W u := by
  obtain ⟨u, hu⟩ := ext_of (W := W) (w' := W) (Below.refl _ _)
  exact ⟨u, hu.symm⟩

set_option maxRecDepth 100000 in
set_option maxHeartbeats 2000000 in
theorem share_part (kd : Int) (A : Option Addr) (ls : List Ln) (cap : Nat) (total num den : Int) (w : World) (B : Nat) (h : Elems tLine w B A ls) (hB : B ≤ w.heap.size) (hl : ls.length ≤ 60) (ht : fits total) :
    Calls Try.prog 28 #[.agg #[.slice A ls.length cap, .int .i64 total], .agg #[.int .i64 num, .int .i64 den], .func (.func 29) #[.int .i64 kd] #[]] w
      fun e w' => e = .returned (.tuple #[.int .i64 (backV kd ls total num den), .int .i64 (backE kd ls total num den)]) ∧ Below w.heap.size w w' := by
  obtain ⟨bv, hbv⟩ : ∃ v, backV kd ls total num den = v := ⟨_, rfl⟩
  obtain ⟨be, hbe⟩ : ∃ v, backE kd ls total num den = v := ⟨_, rfl⟩
  rw [hbv, hbe]
  have Hbv := Lib.hid hbv
  have Hbe := Lib.hid hbe
  clear hbv hbe
  unfold fits at ht
  go_enter Try.func28, Try.ntmps28
  go_wp2
  refine forget (fun W => Below w.heap.size w W ∧ Bk W w.heap.size #[.slice A ls.length cap, .int .i64 total] 28 ∧ Bk W (w.heap.size + 1) #[.int .i64 num, .int .i64 den] 23) ⟨?_, ?_, ?_⟩ ?_
  · (repeat (first | with_reducible exact Below.refl _ _ | with_reducible assumption | with_reducible refine Below.alloc0 ?_ _ | with_reducible refine Below.ext0 ?_ _ | with_reducible refine Below.drew ?_ | with_reducible refine below_drewN ?_ _ | (with_reducible refine Below.setCell (hp := ?hp) ?_ _; case hp => (first | (simp; done) | (simp; omega)))))
  · exact (Bk.new w _ _).alloc _
  · exact bk_next w _ _ _
  rintro W ⟨hw, bD, bR⟩
  have hE := h.keep (hw.mono hB) (Nat.le_refl _)
  have hBW : w.heap.size ≤ W.heap.size := hw.size
  have hB' : B ≤ W.heap.size := Nat.le_trans hB hBW
  have HW := Lib.hid hw
  clear hw h hB
  have cD := bD.cell
  have lD := bD.lt
  have cR := bR.cell
  have lR := bR.lt
  clear bD bR
  go_loopw [8, 9, 11, 15] (fun t n _ i wr => ∃ (k : Nat) (u : World), k ≤ ls.length ∧ i = .int .i64 k ∧ t = .int .i64 (sumOf (ls.take k)) ∧ n = .int .i64 (partOf kd (ls.take k)) ∧ (ls.take k).all lineB = true ∧ wr = ext W u) (fun _ _ _ i _ => ls.length - (intOf i).toNat)
  case atStart =>
    obtain ⟨u, hu⟩ := ext_self W
    exact ⟨0, u, by omega, rfl, rfl, rfl, rfl, hu⟩
  case round =>
    obtain ⟨k, u, hk, rfl, rfl, rfl, hall, rfl⟩ := hrel
    have hs := sumOf_bd _ hall
    have hp := partOf_bd kd _ hall
    rw [List.length_take_of_le hk] at hs
    obtain ⟨hs1, hs2⟩ := hs
    obtain ⟨hp1, hp2⟩ := hp
    have Hall := Lib.hid hall
    clear hall
    by_cases hlt : k < ls.length
    · obtain ⟨b, off, kl, a, rfl, hb, Hk, c0, c1, f0, f1⟩ := pick_line hE hlt
      have Hs := Lib.hid (sumOf_take Hk.out)
      have Hp := Lib.hid (partOf_take (kd := kd) Hk.out)
      have Ha := Lib.hid (all_take Hk.out)
      have bw : b < W.heap.size := by omega
      generalize sumOf (ls.take k) = S at *
      generalize partOf kd (ls.take k) = N at *
      obtain ⟨f2, f3⟩ := f1
      obtain ⟨pk, hpk⟩ : ∃ r, pickB kd (kl, a) = r := ⟨_, rfl⟩
      have Hpk := Lib.hid hpk
      clear hpk
      by_cases hL : lineB (kl, a) = true
      · have hL' := hL
        simp only [lineB, Bool.and_eq_true, decide_eq_true_eq] at hL'
        obtain ⟨⟨⟨m1, m2⟩, m3⟩, m4⟩ := hL'
        have HL := Lib.hid hL
        clear hL
        cases pk
        all_goals
          go_wp2_with (first
            | (go_at_call 23; refine (valid_yes _ _ ⟨by omega, by omega⟩).mono ?_; rintro e w' ⟨rfl, rfl⟩)
            | (go_at_call 29; refine (has_is _ _ _ _ _ Hpk).mono ?_; rintro e w' ⟨rfl, hb⟩; have cl : _ = some (Value.int .i64 a) := ((Bk.new (ext W u) #[.int .i64 kl, .int .i64 a] 38).below hb).cell 1; obtain ⟨u2, rfl⟩ := ext_more_alloc hb; clear hb))
          go_roundw
          case rel =>
            refine ⟨k + 1, _, by omega, by go_num, ?_, ?_, ?_, rfl⟩
            · rw [Hs.out]
            · rw [Hp.out]; first | rw [if_pos Hpk.out] | rw [if_neg (by rw [Hpk.out]; decide), Int.add_zero]
            · rw [Ha.out, Hall.out, HL.out]; rfl
          case measure => simp [intOf]; omega
      · rw [Bool.not_eq_true] at hL
        have hno : kl < 1 ∨ 3 < kl ∨ a < 0 ∨ validB a = false := by
          simp only [lineB, Bool.and_eq_false_iff, decide_eq_false_iff_not] at hL
          by_cases h4 : validB a = false
          · exact .inr (.inr (.inr h4))
          · have := validB_out (by simpa using h4); omega
        have hbad : bv = 0 ∧ be = 1 := by
          have hr : rightB ls total = false := by unfold rightB; rw [all_false Hk.out hL]; simp
          have h1 := Hbv.out; have h2 := Hbe.out
          unfold backV at h1; unfold backE at h2
          rw [hr] at h1 h2
          exact ⟨h1.symm, h2.symm⟩
        obtain ⟨rfl, rfl⟩ := hbad
        obtain ⟨va, hva⟩ : ∃ r, validB a = r := ⟨_, rfl⟩
        rw [hva] at hno
        have Hva := Lib.hid hva
        clear hva hL
        rcases hno with hno | hno | hno | rfl
        all_goals
          go_wp2_with (go_at_call 23; refine (valid_is _ _ _ Hva).mono ?_; rintro e w' ⟨rfl, rfl⟩)
          all_goals go_ret2
          all_goals exact ⟨rfl, (by have hw := HW.out; (repeat (first | with_reducible exact Below.refl _ _ | with_reducible assumption | with_reducible refine Below.alloc0 ?_ _ | with_reducible refine Below.ext0 ?_ _ | with_reducible refine Below.drew ?_ | with_reducible refine below_drewN ?_ _ | (with_reducible refine Below.setCell (hp := ?hp) ?_ _; case hp => (first | (simp; done) | (simp; omega))))))⟩
    · obtain rfl : k = ls.length := by omega
      clear hE
      have hall' : ls.all lineB = true := by have := Hall.out; rwa [List.take_length] at this
      rw [List.take_length] at hs1 hs2 hp1 hp2
      rw [List.take_length]
      have hsum := sumOf_bd _ hall'
      by_cases hr : rightB ls total = true
      · have h1 := Hbv.out
        have h2 := Hbe.out
        unfold backV at h1; unfold backE at h2
        rw [if_pos hr] at h1 h2
        simp only [rightB, Bool.and_eq_true, decide_eq_true_eq] at hr
        obtain ⟨⟨⟨r1, _⟩, r2⟩, r3⟩ := hr
        have Hh1 := Lib.hid h1
        have Hh2 := Lib.hid h2
        clear h1 h2 Hbv Hbe hall' Hall
        generalize sumOf ls = S at *
        generalize partOf kd ls = N at *
        subst r2
        have r1' : (ls.length : Int) ≤ 36 := by omega
        go_wp2_with (first
          | (go_at_call 23; refine (valid_yes _ _ ⟨by omega, by omega⟩).mono ?_; rintro e w' ⟨rfl, rfl⟩)
          | (go_at_call 22; refine (share_two _ _ _ _ _ _ Hh1 Hh2).mono ?_; rintro e w' ⟨rfl, hb⟩; (first | (obtain ⟨u, rfl⟩ := ext_more hb; clear hb) | (obtain ⟨u, rfl⟩ := ext_more_alloc hb; clear hb) | (obtain ⟨u, rfl⟩ := ext_of hb; clear hb))))
        go_ret2
        exact ⟨rfl, (by have hw := HW.out; (repeat (first | with_reducible exact Below.refl _ _ | with_reducible assumption | with_reducible refine Below.alloc0 ?_ _ | with_reducible refine Below.ext0 ?_ _ | with_reducible refine Below.drew ?_ | with_reducible refine below_drewN ?_ _ | (with_reducible refine Below.setCell (hp := ?hp) ?_ _; case hp => (first | (simp; done) | (simp; omega))))))⟩
      · rw [Bool.not_eq_true] at hr
        have hbad : bv = 0 ∧ be = 1 := by
          have h1 := Hbv.out; have h2 := Hbe.out
          unfold backV at h1; unfold backE at h2
          rw [hr] at h1 h2
          exact ⟨h1.symm, h2.symm⟩
        obtain ⟨rfl, rfl⟩ := hbad
        have hno : 36 < (ls.length : Int) ∨ ((ls.length : Int) ≤ 36 ∧ sumOf ls ≠ total) ∨ ((ls.length : Int) ≤ 36 ∧ sumOf ls = total ∧ 1000000000 < sumOf ls) := by
          simp only [rightB, hall', Bool.and_true, Bool.and_eq_false_iff, decide_eq_false_iff_not] at hr
          omega
        clear hr hall' Hall Hbv Hbe
        generalize sumOf ls = S at *
        generalize partOf kd ls = N at *
        have HV : Hid (1000000000 < S → validB S = false) := fun h => by unfold validB; simp; omega
        rcases hno with h1 | ⟨h1, h2⟩ | ⟨h1, rfl, h3⟩
        · go_wp2_with fail
          all_goals go_ret2
          all_goals exact ⟨rfl, (by have hw := HW.out; (repeat (first | with_reducible exact Below.refl _ _ | with_reducible assumption | with_reducible refine Below.alloc0 ?_ _ | with_reducible refine Below.ext0 ?_ _ | with_reducible refine Below.drew ?_ | with_reducible refine below_drewN ?_ _ | (with_reducible refine Below.setCell (hp := ?hp) ?_ _; case hp => (first | (simp; done) | (simp; omega))))))⟩
        · go_wp2_with fail
          all_goals go_ret2
          all_goals exact ⟨rfl, (by have hw := HW.out; (repeat (first | with_reducible exact Below.refl _ _ | with_reducible assumption | with_reducible refine Below.alloc0 ?_ _ | with_reducible refine Below.ext0 ?_ _ | with_reducible refine Below.drew ?_ | with_reducible refine below_drewN ?_ _ | (with_reducible refine Below.setCell (hp := ?hp) ?_ _; case hp => (first | (simp; done) | (simp; omega))))))⟩
        · go_wp2_with (go_at_call 23; refine (valid_is false _ _ (HV.out h3)).mono ?_; rintro e w' ⟨rfl, rfl⟩)
          all_goals go_ret2
          all_goals exact ⟨rfl, (by have hw := HW.out; (repeat (first | with_reducible exact Below.refl _ _ | with_reducible assumption | with_reducible refine Below.alloc0 ?_ _ | with_reducible refine Below.ext0 ?_ _ | with_reducible refine Below.drew ?_ | with_reducible refine below_drewN ?_ _ | (with_reducible refine Below.setCell (hp := ?hp) ?_ _; case hp => (first | (simp; done) | (simp; omega))))))⟩
end Go.Proofs.Ytdacfopdalgkaaa
