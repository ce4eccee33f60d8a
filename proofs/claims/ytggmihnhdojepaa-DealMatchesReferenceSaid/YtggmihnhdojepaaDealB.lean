/- Layer 17 (price), as layer 34 (deal) uses it: Back, Top, Right, Face. -/
import Derived.Test.YtggmihnhdojepaaDealA
namespace Go.Proofs.Ytggmihnhdojepaa
open Go.RowKit
set_option linter.unusedVariables false
set_option linter.unusedSimpArgs false
attribute [local go_sem] ext_cell ext_frozen lt_ext ext_drew
abbrev tLine : Ty Ln := tPair tInt tInt


def pickB (kd : Int) (l : Ln) : Bool := kd == 0 || l.1 == kd
def partOf (kd : Int) (ls : List Ln) : Int := sumOf (ls.filter (pickB kd))

theorem has_any (kd k a : Int) (w : World) : Calls Try.prog 46 #[.int .i64 kd, .agg #[.int .i64 k, .int .i64 a]] w fun e w' => e = .returned (.bool (pickB kd (k, a))) ∧ Below w.heap.size w w' := by
  go_enter Try.func46, Try.ntmps46
  go_wp2
  all_goals go_ret
  all_goals exact ⟨ret_bool (by simp [pickB, *]), (Below.refl _ _).alloc (by simp) _⟩
theorem has_is (r : Bool) (kd k a : Int) (w : World) (h : Hid (pickB kd (k, a) = r)) : Calls Try.prog 46 #[.int .i64 kd, .agg #[.int .i64 k, .int .i64 a]] w fun e w' => e = .returned (.bool r) ∧ Below w.heap.size w w' :=
  (has_any kd k a w).mono fun e w' ⟨he, hw⟩ => ⟨by rw [he, h.out], hw⟩

/-- A line at hand. -/
theorem pick_line {w : World} {B : Nat} {A : Option Addr} {ls : List Ln} (h : Elems tLine w B A ls) {k : Nat} (hk : k < ls.length) :
    ∃ b off kd a, A = some ⟨b, off, none⟩ ∧ b < B ∧ Hid (ls[k]? = some (kd, a)) ∧ w.cell? ⟨b, off + k * 2, none⟩ = some (.int .i64 kd) ∧ w.cell? ⟨b, off + k * 2 + 1, none⟩ = some (.int .i64 a) ∧ fits kd ∧ fits a := by
  obtain ⟨b, off, ⟨kd, a⟩, cs, hA, hb, _, hx, _, ⟨c1, c2, rfl, ⟨rfl, h1⟩, ⟨rfl, h2⟩⟩, hc⟩ := h.pick hk
  exact ⟨b, off, kd, a, hA, hb, hx, hc 0 _ rfl, hc 1 _ rfl, h1, h2⟩

theorem sumOf_take {ls : List Ln} {k : Nat} {l : Ln} (h : ls[k]? = some l) : sumOf (ls.take (k + 1)) = sumOf (ls.take k) + l.2 := by
  rw [List.take_add_one, h, sumOf_append]
  simp [sumOf]
theorem partOf_take {kd : Int} {ls : List Ln} {k : Nat} {l : Ln} (h : ls[k]? = some l) : partOf kd (ls.take (k + 1)) = partOf kd (ls.take k) + (if pickB kd l then l.2 else 0) := by
  unfold partOf
  rw [List.take_add_one, h, List.filter_append, sumOf_append]
  congr 1
  by_cases hp : pickB kd l = true <;> simp [hp, sumOf]
theorem all_take {ls : List Ln} {k : Nat} {l : Ln} (h : ls[k]? = some l) : (ls.take (k + 1)).all lineB = ((ls.take k).all lineB && lineB l) := by
  rw [List.take_add_one, h, List.all_append]
  simp
theorem all_false {ls : List Ln} {k : Nat} {l : Ln} (h : ls[k]? = some l) (hl : lineB l = false) : ls.all lineB = false := by
  rw [Bool.eq_false_iff]
  intro hall
  have := List.all_eq_true.1 hall l (List.mem_of_getElem? h)
  rw [hl] at this; cases this
theorem partOf_bd (kd : Int) (ls : List Ln) (h : ls.all lineB = true) : 0 ≤ partOf kd ls ∧ partOf kd ls ≤ sumOf ls := by
  unfold partOf
  induction ls with
  | nil => simp [sumOf]
  | cons l ls ih =>
    simp only [List.all_cons, Bool.and_eq_true] at h
    have := ih h.2
    have hl := h.1
    simp only [lineB, Bool.and_eq_true, decide_eq_true_eq] at hl
    rw [List.filter_cons]
    split
    · rw [sumOf_cons, sumOf_cons]; omega
    · rw [sumOf_cons]; omega

def backV (kd : Int) (ls : List Ln) (total num den : Int) : Int := if rightB ls total then shareV (partOf kd ls) num den else 0
def backE (kd : Int) (ls : List Ln) (total num den : Int) : Int := if rightB ls total then shareE (partOf kd ls) num den else 1


set_option maxRecDepth 100000 in
set_option maxHeartbeats 2000000 in
theorem share_part (kd : Int) (A : Option Addr) (ls : List Ln) (cap : Nat) (total num den : Int) (w : World) (B : Nat) (h : Elems tLine w B A ls) (hB : B ≤ w.heap.size) (hl : ls.length ≤ 60) (ht : fits total) :
    Calls Try.prog 45 #[.agg #[.slice A ls.length cap, .int .i64 total], .agg #[.int .i64 num, .int .i64 den], .func (.func 46) #[.int .i64 kd] #[]] w
      fun e w' => e = .returned (.tuple #[.int .i64 (backV kd ls total num den), .int .i64 (backE kd ls total num den)]) ∧ Below w.heap.size w w' := by
  obtain ⟨bv, hbv⟩ : ∃ v, backV kd ls total num den = v := ⟨_, rfl⟩
  obtain ⟨be, hbe⟩ : ∃ v, backE kd ls total num den = v := ⟨_, rfl⟩
  rw [hbv, hbe]
  have Hbv := Lib.hid hbv
  have Hbe := Lib.hid hbe
  clear hbv hbe
  unfold fits at ht
  go_enter Try.func45, Try.ntmps45
  go_wp2
  refine forget (fun W => Below w.heap.size w W ∧ Bk W w.heap.size #[.slice A ls.length cap, .int .i64 total] 24 ∧ Bk W (w.heap.size + 1) #[.int .i64 num, .int .i64 den] 26) ⟨?_, ?_, ?_⟩ ?_
  · (repeat (first | with_reducible exact Below.refl _ _ | with_reducible assumption | with_reducible refine Below.alloc0 ?_ _ | with_reducible refine Below.ext0 ?_ _ | with_reducible refine Below.drew ?_ | with_reducible refine below_drewN ?_ _ | (with_reducible refine Below.setCell (hp := ?hp) ?_ _; case hp => (first | (simp; done) | (simp; omega)))))
  · exact (Bk.new w _ _).alloc _
  · exact bk_next w _ _ _
  rintro W ⟨hw, bD, bR⟩
  have hE := h.keep (hw.mono hB) (Nat.le_refl _)
  have hBW : w.heap.size ≤ W.heap.size := hw.size
  have hB' : B ≤ W.heap.size := Nat.le_trans hB hBW
  have HW := Lib.hid hw
  clear hw h hB
  have cD := bD.cell
  have lD := bD.lt
  have cR := bR.cell
  have lR := bR.lt
  clear bD bR
  go_loopw [8, 9, 11, 15] (fun t n _ i wr => ∃ (k : Nat) (u : World), k ≤ ls.length ∧ i = .int .i64 k ∧ t = .int .i64 (sumOf (ls.take k)) ∧ n = .int .i64 (partOf kd (ls.take k)) ∧ (ls.take k).all lineB = true ∧ wr = ext W u) (fun _ _ _ i _ => ls.length - (intOf i).toNat)
  case atStart =>
    obtain ⟨u, hu⟩ := ext_self W
    exact ⟨0, u, by omega, rfl, rfl, rfl, rfl, hu⟩
  case round =>
    obtain ⟨k, u, hk, rfl, rfl, rfl, hall, rfl⟩ := hrel
    have hs := sumOf_bd _ hall
    have hp := partOf_bd kd _ hall
    rw [List.length_take_of_le hk] at hs
    obtain ⟨hs1, hs2⟩ := hs
    obtain ⟨hp1, hp2⟩ := hp
    have Hall := Lib.hid hall
    clear hall
    by_cases hlt : k < ls.length
    · obtain ⟨b, off, kl, a, rfl, hb, Hk, c0, c1, f0, f1⟩ := pick_line hE hlt
      have Hs := Lib.hid (sumOf_take Hk.out)
      have Hp := Lib.hid (partOf_take (kd := kd) Hk.out)
      have Ha := Lib.hid (all_take Hk.out)
      have bw : b < W.heap.size := by omega
      generalize sumOf (ls.take k) = S at *
      generalize partOf kd (ls.take k) = N at *
      obtain ⟨f2, f3⟩ := f1
      obtain ⟨pk, hpk⟩ : ∃ r, pickB kd (kl, a) = r := ⟨_, rfl⟩
      have Hpk := Lib.hid hpk
      clear hpk
      by_cases hL : lineB (kl, a) = true
      · have hL' := hL
        simp only [lineB, Bool.and_eq_true, decide_eq_true_eq] at hL'
        obtain ⟨⟨⟨m1, m2⟩, m3⟩, m4⟩ := hL'
        have HL := Lib.hid hL
        clear hL
        cases pk
        all_goals
          go_wp2_with (first
            | (go_at_call 47; refine (valid_yes _ _ ⟨by omega, by omega⟩).mono ?_; rintro e w' ⟨rfl, rfl⟩)
            | (go_at_call 46; refine (has_is _ _ _ _ _ Hpk).mono ?_; rintro e w' ⟨rfl, hb⟩; have cl : _ = some (Value.int .i64 a) := ((Bk.new (ext W u) #[.int .i64 kl, .int .i64 a] 61).below hb).cell 1; obtain ⟨u2, rfl⟩ := ext_more_alloc hb; clear hb))
          go_roundw
          case rel =>
            refine ⟨k + 1, _, by omega, by go_num, ?_, ?_, ?_, rfl⟩
            · rw [Hs.out]
            · rw [Hp.out]; first | rw [if_pos Hpk.out] | rw [if_neg (by rw [Hpk.out]; decide), Int.add_zero]
            · rw [Ha.out, Hall.out, HL.out]; rfl
          case measure => simp [intOf]; omega
      · rw [Bool.not_eq_true] at hL
        have hno : kl < 1 ∨ 3 < kl ∨ a < 0 ∨ validB a = false := by
          simp only [lineB, Bool.and_eq_false_iff, decide_eq_false_iff_not] at hL
          by_cases h4 : validB a = false
          · exact .inr (.inr (.inr h4))
          · have := validB_out (by simpa using h4); omega
        have hbad : bv = 0 ∧ be = 1 := by
          have hr : rightB ls total = false := by unfold rightB; rw [all_false Hk.out hL]; simp
          have h1 := Hbv.out; have h2 := Hbe.out
          unfold backV at h1; unfold backE at h2
          rw [hr] at h1 h2
          exact ⟨h1.symm, h2.symm⟩
        obtain ⟨rfl, rfl⟩ := hbad
        obtain ⟨va, hva⟩ : ∃ r, validB a = r := ⟨_, rfl⟩
        rw [hva] at hno
        have Hva := Lib.hid hva
        clear hva hL
        rcases hno with hno | hno | hno | rfl
        all_goals
          go_wp2_with (go_at_call 47; refine (valid_is _ _ _ Hva).mono ?_; rintro e w' ⟨rfl, rfl⟩)
          all_goals go_ret2
          all_goals exact ⟨rfl, (by have hw := HW.out; (repeat (first | with_reducible exact Below.refl _ _ | with_reducible assumption | with_reducible refine Below.alloc0 ?_ _ | with_reducible refine Below.ext0 ?_ _ | with_reducible refine Below.drew ?_ | with_reducible refine below_drewN ?_ _ | (with_reducible refine Below.setCell (hp := ?hp) ?_ _; case hp => (first | (simp; done) | (simp; omega))))))⟩
    · obtain rfl : k = ls.length := by omega
      clear hE
      have hall' : ls.all lineB = true := by have := Hall.out; rwa [List.take_length] at this
      rw [List.take_length] at hs1 hs2 hp1 hp2
      rw [List.take_length]
      have hsum := sumOf_bd _ hall'
      by_cases hr : rightB ls total = true
      · have h1 := Hbv.out
        have h2 := Hbe.out
        unfold backV at h1; unfold backE at h2
        rw [if_pos hr] at h1 h2
        simp only [rightB, Bool.and_eq_true, decide_eq_true_eq] at hr
        obtain ⟨⟨⟨r1, _⟩, r2⟩, r3⟩ := hr
        have Hh1 := Lib.hid h1
        have Hh2 := Lib.hid h2
        clear h1 h2 Hbv Hbe hall' Hall
        generalize sumOf ls = S at *
        generalize partOf kd ls = N at *
        subst r2
        have r1' : (ls.length : Int) ≤ 36 := by omega
        go_wp2_with (first
          | (go_at_call 47; refine (valid_yes _ _ ⟨by omega, by omega⟩).mono ?_; rintro e w' ⟨rfl, rfl⟩)
          | (go_at_call 23; refine (share_two _ _ _ _ _ _ Hh1 Hh2).mono ?_; rintro e w' ⟨rfl, hb⟩; (first | (obtain ⟨u, rfl⟩ := ext_more hb; clear hb) | (obtain ⟨u, rfl⟩ := ext_more_alloc hb; clear hb) | (obtain ⟨u, rfl⟩ := ext_of hb; clear hb))))
        go_ret2
        exact ⟨rfl, (by have hw := HW.out; (repeat (first | with_reducible exact Below.refl _ _ | with_reducible assumption | with_reducible refine Below.alloc0 ?_ _ | with_reducible refine Below.ext0 ?_ _ | with_reducible refine Below.drew ?_ | with_reducible refine below_drewN ?_ _ | (with_reducible refine Below.setCell (hp := ?hp) ?_ _; case hp => (first | (simp; done) | (simp; omega))))))⟩
      · rw [Bool.not_eq_true] at hr
        have hbad : bv = 0 ∧ be = 1 := by
          have h1 := Hbv.out; have h2 := Hbe.out
          unfold backV at h1; unfold backE at h2
          rw [hr] at h1 h2
          exact ⟨h1.symm, h2.symm⟩
        obtain ⟨rfl, rfl⟩ := hbad
        have hno : 36 < (ls.length : Int) ∨ ((ls.length : Int) ≤ 36 ∧ sumOf ls ≠ total) ∨ ((ls.length : Int) ≤ 36 ∧ sumOf ls = total ∧ 1000000000 < sumOf ls) := by
          simp only [rightB, hall', Bool.and_true, Bool.and_eq_false_iff, decide_eq_false_iff_not] at hr
          omega
        clear hr hall' Hall Hbv Hbe
        generalize sumOf ls = S at *
        generalize partOf kd ls = N at *
        have HV : Hid (1000000000 < S → validB S = false) := fun h => by unfold validB; simp; omega
        rcases hno with h1 | ⟨h1, h2⟩ | ⟨h1, rfl, h3⟩
        · go_wp2_with fail
          all_goals go_ret2
          all_goals exact ⟨rfl, (by have hw := HW.out; (repeat (first | with_reducible exact Below.refl _ _ | with_reducible assumption | with_reducible refine Below.alloc0 ?_ _ | with_reducible refine Below.ext0 ?_ _ | with_reducible refine Below.drew ?_ | with_reducible refine below_drewN ?_ _ | (with_reducible refine Below.setCell (hp := ?hp) ?_ _; case hp => (first | (simp; done) | (simp; omega))))))⟩
        · go_wp2_with fail
          all_goals go_ret2
          all_goals exact ⟨rfl, (by have hw := HW.out; (repeat (first | with_reducible exact Below.refl _ _ | with_reducible assumption | with_reducible refine Below.alloc0 ?_ _ | with_reducible refine Below.ext0 ?_ _ | with_reducible refine Below.drew ?_ | with_reducible refine below_drewN ?_ _ | (with_reducible refine Below.setCell (hp := ?hp) ?_ _; case hp => (first | (simp; done) | (simp; omega))))))⟩
        · go_wp2_with (go_at_call 47; refine (valid_is false _ _ (HV.out h3)).mono ?_; rintro e w' ⟨rfl, rfl⟩)
          all_goals go_ret2
          all_goals exact ⟨rfl, (by have hw := HW.out; (repeat (first | with_reducible exact Below.refl _ _ | with_reducible assumption | with_reducible refine Below.alloc0 ?_ _ | with_reducible refine Below.ext0 ?_ _ | with_reducible refine Below.drew ?_ | with_reducible refine below_drewN ?_ _ | (with_reducible refine Below.setCell (hp := ?hp) ?_ _; case hp => (first | (simp; done) | (simp; omega))))))⟩


section
variable (A : Option Addr) (ls : List Ln) (cap n : Nat) (total num den : Int) (w : World) (B : Nat)

set_option maxHeartbeats 1000000 in
theorem back_any (h : Elems tLine w B A ls) (hB : B ≤ w.heap.size) (hn : ls.length = n) (hl : n ≤ 60) (ht : fits total) :
    Calls Try.prog 51 #[.agg #[.slice A n cap, .int .i64 total], .agg #[.int .i64 num, .int .i64 den]] w
      fun e w' => e = .returned (.tuple #[.int .i64 (backV 0 ls total num den), .int .i64 (backE 0 ls total num den)]) ∧ Below w.heap.size w w' := by
  subst hn
  have HH := Lib.hid h
  clear h
  go_enter Try.func51, Try.ntmps51
  go_wp2_with fail
  refine (share_part 0 A ls cap total num den _ B (HH.out.keep (((Below.refl _ _).alloc hB _).alloc (by simp; omega) _) (Nat.le_refl _)) (by simp; omega) hl ht).mono ?_
  rintro e w' ⟨rfl, hb⟩
  have Hb := Lib.hid hb
  clear hb
  go_wp2_with fail
  go_ret2
  exact ⟨rfl, ((below_self w _).alloc (by simp) _).trans (Hb.out.mono (by simp; omega))⟩

set_option maxHeartbeats 1000000 in
theorem top_any (h : Elems tLine w B A ls) (hB : B ≤ w.heap.size) (hn : ls.length = n) (hl : n ≤ 60) (ht : fits total) :
    Calls Try.prog 22 #[.agg #[.slice A n cap, .int .i64 total], .agg #[.int .i64 num, .int .i64 den]] w
      fun e w' => e = .returned (.tuple #[.int .i64 (backV 1 ls total num den), .int .i64 (backE 1 ls total num den)]) ∧ Below w.heap.size w w' := by
  subst hn
  have HH := Lib.hid h
  clear h
  go_enter Try.func22, Try.ntmps22
  go_wp2_with fail
  refine (share_part 1 A ls cap total num den _ B (HH.out.keep (((Below.refl _ _).alloc hB _).alloc (by simp; omega) _) (Nat.le_refl _)) (by simp; omega) hl ht).mono ?_
  rintro e w' ⟨rfl, hb⟩
  have Hb := Lib.hid hb
  clear hb
  go_wp2_with fail
  go_ret2
  exact ⟨rfl, ((below_self w _).alloc (by simp) _).trans (Hb.out.mono (by simp; omega))⟩

set_option maxHeartbeats 2000000 in
theorem right_any (h : Elems tLine w B A ls) (hB : B ≤ w.heap.size) (hl : ls.length ≤ 60) (ht : fits total) :
    Calls Try.prog 33 #[.agg #[.slice A ls.length cap, .int .i64 total]] w fun e w' => e = .returned (.bool (rightB ls total)) ∧ Below w.heap.size w w' := by
  obtain ⟨r, hr⟩ : ∃ v, rightB ls total = v := ⟨_, rfl⟩
  rw [hr]
  have Hr := Lib.hid hr
  clear hr
  unfold fits at ht
  by_cases h36 : 36 < ls.length
  · have : r = false := by rw [← Hr.out]; unfold rightB; rw [decide_eq_false (by omega)]; rfl
    subst this
    go_enter Try.func33, Try.ntmps33
    go_wp2_with fail
    go_ret
    exact ⟨rfl, by (repeat (first | with_reducible exact Below.refl _ _ | with_reducible assumption | with_reducible refine Below.alloc0 ?_ _ | with_reducible refine Below.ext0 ?_ _ | with_reducible refine Below.drew ?_ | with_reducible refine below_drewN ?_ _ | (with_reducible refine Below.setCell (hp := ?hp) ?_ _; case hp => (first | (simp; done) | (simp; omega)))))⟩
  · have h36' : (ls.length : Int) ≤ 36 := by omega
    go_enter Try.func33, Try.ntmps33
    go_wp2_with fail
    refine forget (fun W => Below w.heap.size w W ∧ Bk W w.heap.size #[.slice A ls.length cap, .int .i64 total] 24) ⟨?_, ?_⟩ ?_
    · (repeat (first | with_reducible exact Below.refl _ _ | with_reducible assumption | with_reducible refine Below.alloc0 ?_ _ | with_reducible refine Below.ext0 ?_ _ | with_reducible refine Below.drew ?_ | with_reducible refine below_drewN ?_ _ | (with_reducible refine Below.setCell (hp := ?hp) ?_ _; case hp => (first | (simp; done) | (simp; omega)))))
    · exact Bk.new w _ _
    rintro W ⟨hw, bD⟩
    have hE := h.keep (hw.mono hB) (Nat.le_refl _)
    have hBW : w.heap.size ≤ W.heap.size := hw.size
    have hB' : B ≤ W.heap.size := Nat.le_trans hB hBW
    have HW := Lib.hid hw
    clear hw h hB
    have cD := bD.cell
    have lD := bD.lt
    clear bD
    go_loopw [3, 4, 5] (fun t i _ wr => ∃ (k : Nat) (u : World), k ≤ ls.length ∧ i = .int .i64 k ∧ t = .int .i64 (sumOf (ls.take k)) ∧ (ls.take k).all lineB = true ∧ wr = ext W u) (fun _ i _ _ => ls.length - (intOf i).toNat)
    case atStart =>
      obtain ⟨u, hu⟩ := ext_self W
      exact ⟨0, u, by omega, rfl, rfl, rfl, hu⟩
    case round =>
      obtain ⟨k, u, hk, rfl, rfl, hall, rfl⟩ := hrel
      have hs := sumOf_bd _ hall
      rw [List.length_take_of_le hk] at hs
      obtain ⟨hs1, hs2⟩ := hs
      have Hall := Lib.hid hall
      clear hall
      by_cases hlt : k < ls.length
      · obtain ⟨b, off, kl, a, rfl, hb, Hk, c0, c1, f0, f1⟩ := pick_line hE hlt
        have Hs := Lib.hid (sumOf_take Hk.out)
        have Ha := Lib.hid (all_take Hk.out)
        have bw : b < W.heap.size := by omega
        generalize sumOf (ls.take k) = S at *
        by_cases hL : lineB (kl, a) = true
        · have hL' := hL
          simp only [lineB, Bool.and_eq_true, decide_eq_true_eq] at hL'
          obtain ⟨⟨⟨m1, m2⟩, m3⟩, m4⟩ := hL'
          have HL := Lib.hid hL
          clear hL
          go_wp2_with fail
          go_roundw
          case rel =>
            obtain ⟨v, hv⟩ := ext_alloc W u (.cells #[.int .i64 kl, .int .i64 a] 61)
            refine ⟨k + 1, v, by omega, by go_num, ?_, ?_, hv⟩
            · rw [Hs.out]
            · rw [Ha.out, Hall.out, HL.out]; rfl
          case measure => simp [intOf]; omega
        · rw [Bool.not_eq_true] at hL
          have : r = false := by rw [← Hr.out]; unfold rightB; rw [all_false Hk.out hL]; simp
          subst this
          have hno : kl < 1 ∨ 3 < kl ∨ a < 0 ∨ 1000000000 < a := by
            simp only [lineB, Bool.and_eq_false_iff, decide_eq_false_iff_not] at hL
            omega
          clear hL
          rcases hno with hno | hno | hno | hno
          all_goals
            go_wp2_with fail
            all_goals go_ret
            all_goals exact ⟨rfl, (by have hw := HW.out; (repeat (first | with_reducible exact Below.refl _ _ | with_reducible assumption | with_reducible refine Below.alloc0 ?_ _ | with_reducible refine Below.ext0 ?_ _ | with_reducible refine Below.drew ?_ | with_reducible refine below_drewN ?_ _ | (with_reducible refine Below.setCell (hp := ?hp) ?_ _; case hp => (first | (simp; done) | (simp; omega))))))⟩
      · obtain rfl : k = ls.length := by omega
        clear hE
        have hall' : ls.all lineB = true := by have := Hall.out; rwa [List.take_length] at this
        rw [List.take_length] at hs1 hs2
        rw [List.take_length]
        have hr2 : r = (decide (sumOf ls = total) && decide (sumOf ls ≤ 1000000000)) := by
          rw [← Hr.out]; unfold rightB; rw [hall', decide_eq_true (by omega)]; simp
        have Hr2 := Lib.hid hr2
        clear hr2 hall' Hall Hr
        generalize sumOf ls = S at *
        go_wp2_with fail
        all_goals go_ret
        all_goals exact ⟨ret_bool (by rw [Hr2.out]; simp [*]), (by have hw := HW.out; (repeat (first | with_reducible exact Below.refl _ _ | with_reducible assumption | with_reducible refine Below.alloc0 ?_ _ | with_reducible refine Below.ext0 ?_ _ | with_reducible refine Below.drew ?_ | with_reducible refine below_drewN ?_ _ | (with_reducible refine Below.setCell (hp := ?hp) ?_ _; case hp => (first | (simp; done) | (simp; omega))))))⟩

set_option maxHeartbeats 2000000 in
theorem face_any (h : Elems tLine w B A ls) (hB : B ≤ w.heap.size) (hl : ls.length ≤ 60) (hall : ls.all lineB = true) :
    Calls Try.prog 52 #[.agg #[.slice A ls.length cap, .int .i64 total]] w fun e w' => e = .returned (.int .i64 (partOf 1 ls)) ∧ Below w.heap.size w w' := by
  have Hall := Lib.hid hall
  clear hall
  go_enter Try.func52, Try.ntmps52
  go_wp2_with fail
  refine forget (fun W => Below w.heap.size w W ∧ Bk W w.heap.size #[.slice A ls.length cap, .int .i64 total] 24) ⟨?_, ?_⟩ ?_
  · (repeat (first | with_reducible exact Below.refl _ _ | with_reducible assumption | with_reducible refine Below.alloc0 ?_ _ | with_reducible refine Below.ext0 ?_ _ | with_reducible refine Below.drew ?_ | with_reducible refine below_drewN ?_ _ | (with_reducible refine Below.setCell (hp := ?hp) ?_ _; case hp => (first | (simp; done) | (simp; omega)))))
  · exact Bk.new w _ _
  rintro W ⟨hw, bD⟩
  have hE := h.keep (hw.mono hB) (Nat.le_refl _)
  have hBW : w.heap.size ≤ W.heap.size := hw.size
  have hB' : B ≤ W.heap.size := Nat.le_trans hB hBW
  have HW := Lib.hid hw
  clear hw h hB
  have cD := bD.cell
  have lD := bD.lt
  clear bD
  go_loop [3, 4] (fun t i => ∃ (k : Nat), k ≤ ls.length ∧ i = .int .i64 k ∧ t = .int .i64 (partOf 1 (ls.take k))) (fun _ i => ls.length - (intOf i).toNat)
  case atStart => exact ⟨0, by omega, rfl, rfl⟩
  case round =>
    obtain ⟨k, hk, rfl, rfl⟩ := hrel
    have hall : (ls.take k).all lineB = true := by
      rw [List.all_eq_true]; intro l hl'; exact List.all_eq_true.1 Hall.out l (List.mem_of_mem_take hl')
    have hs := sumOf_bd _ hall
    have hp := partOf_bd 1 _ hall
    rw [List.length_take_of_le hk] at hs
    obtain ⟨hs1, hs2⟩ := hs
    obtain ⟨hp1, hp2⟩ := hp
    clear hall
    by_cases hlt : k < ls.length
    · obtain ⟨b, off, kl, a, rfl, hb, Hk, c0, c1, f0, f1⟩ := pick_line hE hlt
      have Hp := Lib.hid (partOf_take (kd := 1) Hk.out)
      have bw : b < W.heap.size := by omega
      have hL' := List.all_eq_true.1 Hall.out _ (List.mem_of_getElem? Hk.out)
      simp only [lineB, Bool.and_eq_true, decide_eq_true_eq] at hL'
      obtain ⟨⟨⟨m1, m2⟩, m3⟩, m4⟩ := hL'
      generalize sumOf (ls.take k) = S at *
      generalize partOf 1 (ls.take k) = N at *
      by_cases h1 : kl = 1
      · go_wp2_with fail
        go_round
        case rel => exact ⟨k + 1, by omega, by go_num, by rw [Hp.out, if_pos (by simp [pickB, h1])]⟩
        case measure => simp [intOf]; omega
      · go_wp2_with fail
        go_round
        case rel => exact ⟨k + 1, by omega, by go_num, by rw [Hp.out, if_neg (by simp [pickB, h1]), Int.add_zero]⟩
        case measure => simp [intOf]; omega
    · obtain rfl : k = ls.length := by omega
      rw [List.take_length]
      go_wp2_with fail
      go_ret
      exact ⟨rfl, HW.out⟩

set_option maxHeartbeats 1000000 in
theorem rtop_any (h : Elems tLine w B A ls) (hB : B ≤ w.heap.size) (hn : ls.length = n) (hl : n ≤ 60) (ht : fits total) :
    Calls Try.prog 41 #[.agg #[.slice A n cap, .int .i64 total], .agg #[.int .i64 num, .int .i64 den]] w
      fun e w' => e = .returned (.tuple #[.int .i64 (backV 1 ls total num den), .int .i64 (backE 1 ls total num den)]) ∧ Below w.heap.size w w' := by
  subst hn
  obtain ⟨r, hr⟩ : ∃ v, rightB ls total = v := ⟨_, rfl⟩
  have Hr := Lib.hid hr
  clear hr
  have HH := Lib.hid h
  clear h
  obtain ⟨bv, hbv⟩ : ∃ v, backV 1 ls total num den = v := ⟨_, rfl⟩
  obtain ⟨be, hbe⟩ : ∃ v, backE 1 ls total num den = v := ⟨_, rfl⟩
  rw [hbv, hbe]
  have Hbv := Lib.hid hbv
  have Hbe := Lib.hid hbe
  clear hbv hbe
  have HE0 := Lib.hid (HH.out.keep (((Below.refl _ _).alloc hB (.cells #[.slice A ls.length cap, .int .i64 total] 24)).alloc (by simp; omega) (.cells #[.int .i64 num, .int .i64 den] 26)) (Nat.le_refl _))
  have hB2 : B ≤ ((w.alloc (.cells #[.slice A ls.length cap, .int .i64 total] 24)).alloc (.cells #[.int .i64 num, .int .i64 den] 26)).heap.size := by simp; omega
  have HB2 := Lib.hid hB2
  clear hB2
  go_enter Try.func41, Try.ntmps41
  go_wp2_with fail
  refine (right_any A ls cap total _ B HE0.out HB2.out hl ht).mono ?_
  rintro e w' ⟨rfl, hb⟩
  obtain ⟨u, rfl⟩ := ext_of hb
  clear hb
  rw [Hr.out]
  cases r
  · have h1 := Hbv.out; have h2 := Hbe.out
    unfold backV at h1; unfold backE at h2
    rw [Hr.out] at h1 h2
    obtain rfl : bv = 0 := h1.symm
    obtain rfl : be = 1 := h2.symm
    clear h1 h2
    go_wp2_with fail
    go_ret2
    exact ⟨rfl, by (repeat (first | with_reducible exact Below.refl _ _ | with_reducible assumption | with_reducible refine Below.alloc0 ?_ _ | with_reducible refine Below.ext0 ?_ _ | with_reducible refine Below.drew ?_ | with_reducible refine below_drewN ?_ _ | (with_reducible refine Below.setCell (hp := ?hp) ?_ _; case hp => (first | (simp; done) | (simp; omega)))))⟩
  · have h1 := Hbv.out; have h2 := Hbe.out
    unfold backV at h1; unfold backE at h2
    rw [if_pos Hr.out] at h1 h2
    have Hall : Hid (ls.all lineB = true) := by
      have := Hr.out
      simp only [rightB, Bool.and_eq_true, decide_eq_true_eq] at this
      exact this.1.1.2
    obtain ⟨N, hN⟩ : ∃ v, partOf 1 ls = v := ⟨_, rfl⟩
    rw [hN] at h1 h2
    have HN := Lib.hid hN
    have Hh1 := Lib.hid h1
    have Hh2 := Lib.hid h2
    clear h1 h2 hN
    have hface : ∀ v, Calls Try.prog 52 #[.agg #[.slice A ls.length cap, .int .i64 total]] (ext ((w.alloc (.cells #[.slice A ls.length cap, .int .i64 total] 24)).alloc (.cells #[.int .i64 num, .int .i64 den] 26)) v) fun e w' => e = .returned (.int .i64 N) ∧ Below (ext ((w.alloc (.cells #[.slice A ls.length cap, .int .i64 total] 24)).alloc (.cells #[.int .i64 num, .int .i64 den] 26)) v).heap.size (ext ((w.alloc (.cells #[.slice A ls.length cap, .int .i64 total] 24)).alloc (.cells #[.int .i64 num, .int .i64 den] 26)) v) w' := fun v =>
      (face_any A ls cap total _ B (HE0.out.ext HB2.out v) (Nat.le_trans HB2.out (size_ext _ v)) hl Hall.out).mono fun e w' ⟨he, hb⟩ => ⟨by rw [he, HN.out], hb⟩
    have Hface := Lib.hid hface
    clear hface
    go_wp2_with fail
    refine wp_region_more _ _ (by kernel_rfl) (by kernel_rfl) ?_
    repeat (go_big_quiet_step (first
      | (go_at_call 52; exact Calls.in_ext (Hface.out _))
      | (go_at_call 42; exact Calls.in_ext (rshare_two _ _ _ _ _ _ Hh1 Hh2))))
    refine wpQuiet_nil (fun v => ?_)
    go_wp2_with fail
    go_ret2
    exact ⟨rfl, by (repeat (first | with_reducible exact Below.refl _ _ | with_reducible assumption | with_reducible refine Below.alloc0 ?_ _ | with_reducible refine Below.ext0 ?_ _ | with_reducible refine Below.drew ?_ | with_reducible refine below_drewN ?_ _ | (with_reducible refine Below.setCell (hp := ?hp) ?_ _; case hp => (first | (simp; done) | (simp; omega)))))⟩
end
end Go.Proofs.Ytggmihnhdojepaa
