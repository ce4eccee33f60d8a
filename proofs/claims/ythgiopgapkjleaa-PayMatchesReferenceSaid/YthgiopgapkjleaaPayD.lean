/- Bills: what pay.right answers; money.Valid. -/
import Derived.Test.YthgiopgapkjleaaPayN
import Derived.Test.YthgiopgapkjleaaMoneyP
namespace Go.Proofs.Ythgiopgapkjleaa
open Go.RowKit
set_option linter.unusedVariables false
set_option linter.unusedSimpArgs false
attribute [local go_sem] ext_cell ext_frozen lt_ext ext_drew

abbrev tLine : Ty Ln := tPair tInt tInt
theorem pick_line {w : World} {B : Nat} {A : Option Addr} {ls : List Ln} (h : Elems tLine w B A ls) {k : Nat} (hk : k < ls.length) :
    ∃ b off kd a, A = some ⟨b, off, none⟩ ∧ b < B ∧ Hid (ls[k]? = some (kd, a)) ∧ w.cell? ⟨b, off + k * 2, none⟩ = some (.int .i64 kd) ∧ w.cell? ⟨b, off + k * 2 + 1, none⟩ = some (.int .i64 a) ∧ fits kd ∧ fits a := by
  obtain ⟨b, off, ⟨kd, a⟩, cs, hA, hb, _, hx, _, ⟨c1, c2, rfl, ⟨rfl, h1⟩, ⟨rfl, h2⟩⟩, hc⟩ := h.pick hk
  exact ⟨b, off, kd, a, hA, hb, hx, hc 0 _ rfl, hc 1 _ rfl, h1, h2⟩
theorem sumOf_take {ls : List Ln} {k : Nat} {l : Ln} (h : ls[k]? = some l) : sumOf (ls.take (k + 1)) = sumOf (ls.take k) + l.2 := by
  rw [List.take_add_one, h, sumOf_append]
  simp [sumOf]
theorem all_take {ls : List Ln} {k : Nat} {l : Ln} (h : ls[k]? = some l) : (ls.take (k + 1)).all lineB = ((ls.take k).all lineB && lineB l) := by
  rw [List.take_add_one, h, List.all_append]
  simp
theorem all_false {ls : List Ln} {k : Nat} {l : Ln} (h : ls[k]? = some l) (hl : lineB l = false) : ls.all lineB = false := by
  rw [Bool.eq_false_iff]
  intro hall
  have := List.all_eq_true.1 hall l (List.mem_of_getElem? h)
  rw [hl] at this; cases this

theorem within_any (n lo hi : Int) (w : World) : Calls Try.prog 33 #[.int .i64 n, .int .i64 lo, .int .i64 hi] w fun e w' => e = .returned (.bool (decide (lo ≤ n) && decide (n ≤ hi))) ∧ w = w' := by
  go_enter Try.func33, Try.ntmps33
  go_wp2
  all_goals go_ret
  all_goals exact ⟨ret_bool (by simp; try omega), rfl⟩
theorem valid_any (n : Int) (w : World) : Calls Try.prog 25 #[.int .i64 n] w fun e w' => e = .returned (.bool (validB n)) ∧ w = w' := by
  go_enter Try.func25, Try.ntmps25
  go_wp2_with (go_at_call 33; refine (within_any _ _ _ _).mono ?_; rintro e w' ⟨rfl, rfl⟩)
  go_ret
  exact ⟨rfl, rfl⟩
theorem valid_is (r : Bool) (n : Int) (w : World) (h : Hid (validB n = r)) : Calls Try.prog 25 #[.int .i64 n] w fun e w' => e = .returned (.bool r) ∧ w = w' :=
  (valid_any n w).mono fun e w' ⟨he, hw⟩ => ⟨by rw [he, h.out], hw⟩

def LineSeen (w : World) (qb : Nat) (k a S : Int) (e : Ending) (w' : World) : Prop :=
  e = .returned (.bool (!lineB (k, a))) ∧ ∃ S', Bk w' qb #[.int .i64 S'] 3 ∧ (lineB (k, a) = true → S' = S + a) ∧ Only (fun g => g = qb) w w'

set_option maxHeartbeats 1000000 in
theorem line_bad (k a S : Int) (w : World) (qb : Nat) (h : Bk w qb #[.int .i64 S] 3) (hS : 0 ≤ S ∧ S ≤ 1000000000000) (fk : fits k) (fa : fits a) :
    Calls Try.prog 35 #[.agg #[.int .i64 k, .int .i64 a], .pointer (some ⟨qb, 0, none⟩)] w (LineSeen w qb k a S) := by
  obtain ⟨s1, s2⟩ := hS
  obtain ⟨k1, k2⟩ := fk
  obtain ⟨a1, a2⟩ := fa
  have c0 : w.cell? ⟨qb, 0, none⟩ = some (.int .i64 S) := h.cell 0
  have f0 := h.free 0
  have lq := h.lt
  have H := Lib.hid h
  clear h
  by_cases hL : lineB (k, a) = true
  · have hL' := hL
    simp only [lineB, Bool.and_eq_true, decide_eq_true_eq] at hL'
    obtain ⟨⟨⟨m1, m2⟩, m3⟩, m4⟩ := hL'
    have HL := Lib.hid hL
    have hv := Lib.hid (validB_in (n := a) ⟨by omega, m4⟩)
    clear hL
    go_enter Try.func35, Try.ntmps35
    go_wp2_with (go_at_call 25; refine (valid_is _ _ _ hv).mono ?_; rintro e w' ⟨rfl, rfl⟩)
    go_ret
    all_goals refine ⟨ret_bool (by rw [HL.out]; first | rfl | (simp; omega)), S + a, ?_, fun _ => rfl, by (repeat (first | with_reducible exact Only.refl _ _ | with_reducible assumption | with_reducible refine Only.alloc ?_ _ | with_reducible refine Only.ext0 ?_ _ | with_reducible refine Only.drew ?_ | with_reducible refine Only.drewN ?_ _ | (with_reducible refine Only.set_ (hp := ?hp) ?_ _; case hp => (first | (left; rfl) | (left; left; rfl) | (right; simp; done) | (right; simp; omega) | (left; simp; done) | (left; simp [*]; done)))))⟩
    all_goals exact (H.out.set_ 0 _).alloc _
  · rw [Bool.not_eq_true] at hL
    have HL := Lib.hid hL
    have hno : k < 1 ∨ 3 < k ∨ a < 0 ∨ 1000000000 < a := by
      simp only [lineB, Bool.and_eq_false_iff, decide_eq_false_iff_not] at hL
      omega
    clear hL
    obtain ⟨v, hv⟩ : ∃ v, validB a = v := ⟨_, rfl⟩
    have hvf : 1000000000 < a → v = false := fun h => by rw [← hv]; exact Bool.eq_false_iff.2 (fun h' => by have := validB_out h'; omega)
    have Hv := Lib.hid hv
    have Hvf := Lib.hid hvf
    clear hv hvf
    rcases hno with hno | hno | hno | hno
    all_goals
      first | (have h4 := Hvf.out hno; subst h4) | skip
      go_enter Try.func35, Try.ntmps35
      go_wp2_with (go_at_call 25; refine (valid_is _ _ _ Hv).mono ?_; rintro e w' ⟨rfl, rfl⟩)
      all_goals go_ret
      all_goals refine ⟨ret_bool (by rw [HL.out]; first | rfl | (simp [*]; done) | (simp; omega)), _, (H.out.set_ 0 _).alloc _, fun h => absurd (HL.out.symm.trans h) (by decide), by (repeat (first | with_reducible exact Only.refl _ _ | with_reducible assumption | with_reducible refine Only.alloc ?_ _ | with_reducible refine Only.ext0 ?_ _ | with_reducible refine Only.drew ?_ | with_reducible refine Only.drewN ?_ _ | (with_reducible refine Only.set_ (hp := ?hp) ?_ _; case hp => (first | (left; rfl) | (left; left; rfl) | (right; simp; done) | (right; simp; omega) | (left; simp; done) | (left; simp [*]; done)))))⟩

/-- What a search among a bill's lines ends with. -/
def LinesSeen (w : World) (qb : Nat) (ls : List Ln) (e : Ending) (w' : World) : Prop :=
  ∃ (i S : Int), e = .returned (.int .i64 i) ∧ Bk w' qb #[.int .i64 S] 3 ∧ Only (fun g => g = qb) w w' ∧ (ls.all lineB = true → i = -1 ∧ S = sumOf ls) ∧ (ls.all lineB = false → 0 ≤ i)
def LinesBad (w : World) (qb : Nat) (ls : List Ln) (e : Ending) (w' : World) : Prop :=
  ∃ S : Int, e = .returned (.bool (!ls.all lineB)) ∧ Bk w' qb #[.int .i64 S] 3 ∧ Only (fun g => g = qb) w w' ∧ (ls.all lineB = true → S = sumOf ls)

set_option maxHeartbeats 1000000 in
theorem index_lines (A : Option Addr) (ls : List Ln) (cap : Nat) (w : World) (B qb : Nat) (h : Elems tLine w B A ls) (hB : B ≤ w.heap.size) (hl : ls.length ≤ 60) (hq : Bk w qb #[.int .i64 0] 3) (hqB : B ≤ qb) :
    Calls Try.prog 38 #[.slice A ls.length cap, .func (.func 35) #[] #[.pointer (some ⟨qb, 0, none⟩)]] w (LinesSeen w qb ls) := by
  have HQ := Lib.hid hq
  have hl' : (ls.length : Int) ≤ 60 := by omega
  clear hq
  go_enter Try.func38, Try.ntmps38
  go_wp2_with fail
  go_loopw [8] (fun i wr => ∃ (k : Nat), k ≤ ls.length ∧ i = .int .i64 k ∧ (ls.take k).all lineB = true ∧ Bk wr qb #[.int .i64 (sumOf (ls.take k))] 3 ∧ Only (fun g => g = qb) w wr) (fun i _ => ls.length - (intOf i).toNat)
  case atStart => exact ⟨0, by omega, rfl, rfl, HQ.out, Only.refl _ _⟩
  case round =>
    obtain ⟨k, hk, rfl, hall, hbk, hon⟩ := hrel
    have hE := h.keep (hon.to_below (B := B) (fun g hg => by omega) hB) (Nat.le_refl _)
    have hs := sumOf_bd _ hall
    rw [List.length_take_of_le hk] at hs
    obtain ⟨hs1, hs2⟩ := hs
    have HX := Lib.hid (And.intro hall (And.intro hbk hon))
    have hBr : B ≤ wr.heap.size := Nat.le_trans hB hon.size
    clear hall hbk hon
    by_cases hlt : k < ls.length
    · obtain ⟨b, off, kl, a, rfl, hb, Hk, c0, c1, f0, f1⟩ := pick_line hE hlt
      have Hs := Lib.hid (sumOf_take Hk.out)
      have Ha := Lib.hid (all_take Hk.out)
      have bw : b < wr.heap.size := by omega
      clear hE
      go_wp2_with fail
      refine (line_bad kl a _ _ qb HX.out.2.1 ⟨hs1, by omega⟩ f0 f1).mono ?_
      rintro e w2 ⟨rfl, S', hbk, hS', hon⟩
      have HY := Lib.hid (And.intro hbk (And.intro hS' hon))
      clear hbk hS' hon
      by_cases hL : lineB (kl, a) = true
      · have HL := Lib.hid hL
        rw [HL.out]
        clear hL
        go_wp2_with fail
        go_roundw
        case rel =>
          refine ⟨k + 1, by omega, by go_num, by rw [Ha.out, HX.out.1, HL.out]; rfl, ?_, HX.out.2.2.trans HY.out.2.2⟩
          rw [Hs.out, ← HY.out.2.1 HL.out]
          exact HY.out.1
        case measure => simp [intOf]; omega
      · rw [Bool.not_eq_true] at hL
        have HL := Lib.hid hL
        rw [HL.out]
        clear hL
        go_wp2_with fail
        go_ret
        exact ⟨k, S', rfl, HY.out.1, HX.out.2.2.trans HY.out.2.2, fun h => (by rw [all_false Hk.out HL.out] at h; cases h), fun _ => by omega⟩
    · obtain rfl : k = ls.length := by omega
      have hall' : ls.all lineB = true := by have := HX.out.1; rwa [List.take_length] at this
      have Hall := Lib.hid hall'
      clear hall'
      go_wp2_with fail
      go_ret
      have := HX.out.2.1
      rw [List.take_length] at this
      exact ⟨-1, _, rfl, this, HX.out.2.2, fun _ => ⟨rfl, rfl⟩, fun h => (by rw [Hall.out] at h; cases h)⟩

theorem contains_lines (A : Option Addr) (ls : List Ln) (cap : Nat) (w : World) (B qb : Nat) (h : Elems tLine w B A ls) (hB : B ≤ w.heap.size) (hl : ls.length ≤ 60) (hq : Bk w qb #[.int .i64 0] 3) (hqB : B ≤ qb) :
    Calls Try.prog 34 #[.slice A ls.length cap, .func (.func 35) #[] #[.pointer (some ⟨qb, 0, none⟩)]] w (LinesBad w qb ls) := by
  have H := Lib.hid (index_lines A ls cap w B qb h hB hl hq hqB)
  clear h hq
  go_enter Try.func34, Try.ntmps34
  go_wp2_with fail
  refine H.out.mono ?_
  rintro e w' ⟨i, S, rfl, hbk, hon, h1, h2⟩
  have HX := Lib.hid (And.intro hbk (And.intro hon (And.intro h1 h2)))
  clear hbk hon h1 h2
  cases hr : ls.all lineB with
  | true =>
    obtain ⟨rfl, _⟩ := HX.out.2.2.1 hr
    have Hr := Lib.hid hr
    clear hr
    go_wp2_with fail
    go_ret
    exact ⟨S, ret_bool (by rw [Hr.out]; rfl), HX.out.1, HX.out.2.1, fun h => (HX.out.2.2.1 h).2⟩
  | false =>
    have hi := HX.out.2.2.2 hr
    have Hr := Lib.hid hr
    clear hr
    go_wp2_with fail
    go_ret
    exact ⟨S, ret_bool (by rw [Hr.out]; rfl), HX.out.1, HX.out.2.1, fun h => (HX.out.2.2.1 h).2⟩

set_option maxHeartbeats 1000000 in
theorem right_any (A : Option Addr) (ls : List Ln) (cap n : Nat) (total : Int) (w : World) (B : Nat) (h : Elems tLine w B A ls) (hB : B ≤ w.heap.size) (hn : ls.length = n) (hl : n ≤ 60) :
    Calls Try.prog 26 #[.agg #[.slice A n cap, .int .i64 total]] w fun e w' => e = .returned (.bool (rightB ls total)) ∧ Below w.heap.size w w' := by
  subst hn
  have HE := Lib.hid h
  have hl' : (ls.length : Int) ≤ 60 := by omega
  clear h
  obtain ⟨r, hr⟩ : ∃ r, rightB ls total = r := ⟨_, rfl⟩
  rw [hr]
  have Hr := Lib.hid hr
  clear hr
  go_enter Try.func26, Try.ntmps26
  go_wp2_with fail
  refine (contains_lines A ls cap _ B (w.heap.size + 1) (HE.out.keep (((Below.refl _ _).alloc hB _).alloc (by simp; omega) _) (Nat.le_refl _)) (by simp; omega) hl (bk_new_at _ _ _ _ (by simp)) (by omega)).mono ?_
  rintro e w' ⟨S, rfl, hbk, hon, hS⟩
  have cq : w'.cell? ⟨w.heap.size + 1, 0, none⟩ = some (.int .i64 S) := hbk.cell 0
  have lq := hbk.lt
  have hb1 : Bk w' w.heap.size #[.slice A ls.length cap, .int .i64 total] 24 := ((Bk.new w _ _).alloc _).only hon (by omega)
  have c0 : w'.cell? ⟨w.heap.size, 0, none⟩ = some (.slice A ls.length cap) := hb1.cell 0
  have c1 : w'.cell? ⟨w.heap.size, 1, none⟩ = some (.int .i64 total) := hb1.cell 1
  have HO := Lib.hid (And.intro hon hS)
  clear hbk hon hS hb1
  have hfin : Hid (Below w.heap.size w w') := by
    have := HO.out.1.to_below (B := w.heap.size) (fun g hg => by omega) (by simp; omega)
    exact (((Below.refl _ w).alloc (Nat.le_refl _) _).alloc (by simp) _).trans this
  cases hr : ls.all lineB with
  | false =>
    have hz : r = false := by rw [← Hr.out]; unfold rightB; rw [hr]; simp
    subst hz
    clear hr
    go_wp2_with fail
    go_ret
    exact ⟨rfl, hfin.out⟩
  | true =>
    obtain rfl := HO.out.2 hr
    have hz : r = (decide (ls.length ≤ 36) && decide (sumOf ls = total) && decide (sumOf ls ≤ 1000000000)) := by rw [← Hr.out]; unfold rightB; rw [hr]; simp
    have Hz := Lib.hid hz
    have hs := sumOf_bd ls hr
    obtain ⟨hs1, hs2⟩ := hs
    clear hz hr HO Hr
    generalize sumOf ls = S at *
    by_cases ht : S = total
    · subst ht
      obtain ⟨v, hv⟩ : ∃ v, validB S = v := ⟨_, rfl⟩
      have hv2 : v = decide (S ≤ 1000000000) := by
        rw [← hv]; unfold validB; rw [decide_eq_true (show -1000000000 ≤ S by omega)]; rfl
      have Hv := Lib.hid hv
      have Hv2 := Lib.hid hv2
      clear hv hv2
      go_wp2_with (go_at_call 25; refine (valid_is _ _ _ Hv).mono ?_; rintro e w' ⟨rfl, rfl⟩)
      all_goals go_ret
      all_goals exact ⟨ret_bool (by rw [Hz.out]; (try rw [Hv2.out]); first | (simp [*]; done) | (simp; omega) | (simp [*]; omega)), hfin.out⟩
    · have ht' : decide (S = total) = false := by simpa using ht
      go_wp2_with fail
      all_goals go_ret
      all_goals exact ⟨ret_bool (by rw [Hz.out]; first | (simp [*]; done) | (simp; omega) | (simp [*]; omega)), hfin.out⟩
theorem right_is (r : Bool) (A : Option Addr) (ls : List Ln) (cap n : Nat) (total : Int) (w : World) (B : Nat) (h : Elems tLine w B A ls) (hB : B ≤ w.heap.size) (hn : ls.length = n) (hl : n ≤ 60) (hr : Hid (rightB ls total = r)) :
    Calls Try.prog 26 #[.agg #[.slice A n cap, .int .i64 total]] w fun e w' => e = .returned (.bool r) ∧ Below w.heap.size w w' := by
  have := right_any A ls cap n total w B h hB hn hl
  rwa [hr.out] at this
end Go.Proofs.Ythgiopgapkjleaa
