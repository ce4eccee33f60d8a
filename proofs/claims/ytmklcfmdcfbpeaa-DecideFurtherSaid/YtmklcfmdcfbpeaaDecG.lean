/- Layer 13 (decide): the reference's Few and First. -/
import Derived.Test.YtmklcfmdcfbpeaaDecD
namespace Go.Proofs.Ytmklcfmdcfbpeaa
open Go.RowKit
set_option linter.unusedVariables false
set_option linter.unusedSimpArgs false
attribute [local go_sem] ext_cell ext_frozen lt_ext ext_drew

def smallR (r : Rl) : Bool := decide (r.2.2.1.length ≤ 30) && decide (r.2.1.size ≤ 200)
def fewP (rs : List Rl) (m : Nat) : Bool := decide (rs.length ≤ m) && rs.all smallR

theorem all_take {α : Type} {xs : List α} {k : Nat} {x : α} (p : α → Bool) (h : xs[k]? = some x) : (xs.take (k + 1)).all p = ((xs.take k).all p && p x) := by
  rw [List.take_add_one, h, List.all_append]
  simp
theorem all_bad {α : Type} {xs : List α} {k : Nat} {x : α} (p : α → Bool) (h : xs[k]? = some x) (hp : p x = false) : xs.all p = false := by
  rw [List.all_eq_false]
  exact ⟨x, List.mem_of_getElem? h, by simp [hp]⟩

theorem fcV_cells {f : Fc} (h : f.length = 10) : fcV f = #[.int .i64 (atF f 0), .int .i64 (atF f 1), .int .i64 (atF f 2), .int .i64 (atF f 3), .int .i64 (atF f 4), .int .i64 (atF f 5), .int .i64 (atF f 6), .int .i64 (atF f 7), .int .i64 (atF f 8), .int .i64 (atF f 9)] := by
  match f, h with
  | [_, _, _, _, _, _, _, _, _, _], _ => rfl

set_option maxHeartbeats 1000000 in
theorem rfew_any (A : Option Addr) (rs : List Rl) (cap n m : Nat) (w : World) (B : Nat) (h : Elems tRl w B A rs) (hB : B ≤ w.heap.size) (hn : rs.length = n) (hm0 : m ≤ 1000) :
    Calls Try.prog 11 #[.agg #[.slice A n cap], .int .i64 m] w fun e w' => e = .returned (.bool (fewP rs m)) ∧ Below w.heap.size w w' := by
  subst hn
  obtain ⟨r, hr⟩ : ∃ r, fewP rs m = r := ⟨_, rfl⟩
  rw [hr]
  have Hr := Lib.hid hr
  have HH := Lib.hid h
  clear h hr
  by_cases hm : rs.length ≤ m
  · have hm' : (rs.length : Int) ≤ (m : Int) := by omega
    go_enter Try.func11, Try.ntmps11
    go_wp2_with fail
    refine forget (fun W => Below w.heap.size w W ∧ Bk W w.heap.size #[.slice A rs.length cap] 24) ⟨?_, ?_⟩ ?_
    · (repeat (first | with_reducible exact Below.refl _ _ | with_reducible assumption | with_reducible refine Below.alloc0 ?_ _ | with_reducible refine Below.ext0 ?_ _ | with_reducible refine Below.drew ?_ | with_reducible refine below_drewN ?_ _ | (with_reducible refine Below.setCell (hp := ?hp) ?_ _; case hp => (first | (simp; done) | (simp; omega)))))
    · exact Bk.new w _ _
    rintro W ⟨hw, b0⟩
    have c0 : W.cell? ⟨w.heap.size, 0, none⟩ = some (.slice A rs.length cap) := b0.cell 0
    have l0 := b0.lt
    have hE := HH.out.keep (hw.mono hB) (Nat.le_refl _)
    have hBW : B ≤ W.heap.size := Nat.le_trans hB hw.size
    have HW := Lib.hid hw
    clear hw b0 HH
    go_loopw [5] (fun i wr => ∃ (k q : Nat), k ≤ rs.length ∧ i = .int .i64 k ∧ (rs.take k).all smallR = true ∧ wr = W.drewN q) (fun i _ => rs.length - (intOf i).toNat)
    case atStart => exact ⟨0, 0, by omega, rfl, rfl, rfl⟩
    case round =>
      obtain ⟨k, q, hk, rfl, hall, rfl⟩ := hrel
      have Hall := Lib.hid hall
      clear hall
      by_cases hlt : k < rs.length
      · obtain ⟨b, off, kd, nm, AZ, zs, zc, num, rn, rd, sn, sd, rfl, hb, Hk, d0, d1, d2, d3, d4, d5, d6, d7, f1, f2, f3, hZ, _, _⟩ := pick_rule hE hlt
        have bw : b < W.heap.size := by omega
        have hkl : (k : Int) < (rs.length : Int) := by omega
        have Hs := Lib.hid (all_take smallR Hk.out)
        have hbad : Hid (smallR (kd, nm, zs, num, (rn, rd), (sn, sd)) = false → r = false) := Lib.hid fun h => by
          rw [← Hr.out]; unfold fewP; rw [all_bad smallR Hk.out h, Bool.and_false]
        have hgood : Hid (smallR (kd, nm, zs, num, (rn, rd), (sn, sd)) = true → (rs.take (k + 1)).all smallR = true) := Lib.hid fun h => by
          rw [Hs.out, Hall.out, h]; rfl
        clear hE hZ f1 f2 f3
        by_cases hz : zs.length ≤ 30
        · have hz' : (zs.length : Int) ≤ 30 := by omega
          have hz2 : decide ((30 : Int) < (zs.length : Int)) = false := decide_eq_false (by omega)
          by_cases hq : nm.size ≤ 200
          · have hq' : (nm.size : Int) ≤ 200 := by omega
            have hq2 : decide ((200 : Int) < (nm.size : Int)) = false := decide_eq_false (by omega)
            go_wp2_with fail
            go_roundw
            case rel => exact ⟨k + 1, q, by omega, by go_num, hgood.out (by simp [smallR, hz, hq]), rfl⟩
            case measure => simp [intOf]; omega
          · have hq' : (200 : Int) < (nm.size : Int) := by omega
            have hq2 : decide ((200 : Int) < (nm.size : Int)) = true := decide_eq_true (by omega)
            obtain rfl := hbad.out (by simp [smallR]; omega)
            go_wp2_with fail
            go_ret
            exact ⟨rfl, below_drewN HW.out _⟩
        · have hz' : (30 : Int) < (zs.length : Int) := by omega
          have hz2 : decide ((30 : Int) < (zs.length : Int)) = true := decide_eq_true (by omega)
          obtain rfl := hbad.out (by simp [smallR]; omega)
          go_wp2_with fail
          go_ret
          exact ⟨rfl, below_drewN HW.out _⟩
      · obtain rfl : k = rs.length := by omega
        have hr2 : r = true := by
          rw [← Hr.out]; unfold fewP
          have := Hall.out; rw [List.take_length] at this
          rw [this, decide_eq_true hm]; rfl
        subst hr2
        go_wp2_with fail
        go_ret
        exact ⟨rfl, below_drewN HW.out _⟩
  · have hm' : (m : Int) < (rs.length : Int) := by omega
    have hr2 : r = false := by rw [← Hr.out]; unfold fewP; rw [decide_eq_false hm]; rfl
    subst hr2
    go_enter Try.func11, Try.ntmps11
    go_wp2_with fail
    go_ret
    exact ⟨rfl, below_self _ _⟩

/-- The index of the first rule of a kind that holds, among the first k; -1 if there is none. -/
def firstTo (f : Fc) (q : Int) (rs : List Rl) : Nat → Int
  | 0 => -1
  | k + 1 => if 0 ≤ firstTo f q rs k then firstTo f q rs k else match rs[k]? with | some r => if r.1 = q ∧ holdsB r f = true then (k : Int) else -1 | none => -1
theorem firstTo_miss {f : Fc} {q : Int} {rs : List Rl} {k : Nat} {r : Rl} (h : firstTo f q rs k = -1) (hr : rs[k]? = some r) (hn : ¬ (r.1 = q ∧ holdsB r f = true)) : firstTo f q rs (k + 1) = -1 := by
  show (if 0 ≤ firstTo f q rs k then firstTo f q rs k else match rs[k]? with | some r => if r.1 = q ∧ holdsB r f = true then (k : Int) else -1 | none => -1) = -1
  rw [h, hr, if_neg (by omega)]
  exact if_neg hn
theorem firstTo_hit {f : Fc} {q : Int} {rs : List Rl} {k : Nat} {r : Rl} (h : firstTo f q rs k = -1) (hr : rs[k]? = some r) (hn : r.1 = q ∧ holdsB r f = true) : firstTo f q rs (k + 1) = k := by
  show (if 0 ≤ firstTo f q rs k then firstTo f q rs k else match rs[k]? with | some r => if r.1 = q ∧ holdsB r f = true then (k : Int) else -1 | none => -1) = k
  rw [h, hr, if_neg (by omega)]
  exact if_pos hn
theorem firstTo_stay {f : Fc} {q : Int} {rs : List Rl} {k : Nat} (h : 0 ≤ firstTo f q rs k) : ∀ n, k ≤ n → firstTo f q rs n = firstTo f q rs k := by
  intro n hn
  induction n with
  | zero => obtain rfl : k = 0 := by omega
            rfl
  | succ n ih =>
    by_cases e : k = n + 1
    · rw [e]
    · have h2 := ih (by omega)
      show (if 0 ≤ firstTo f q rs n then firstTo f q rs n else match rs[n]? with | some r => if r.1 = q ∧ holdsB r f = true then (n : Int) else -1 | none => -1) = _
      rw [if_pos (by omega), h2]
theorem firstTo_end {f : Fc} {q : Int} {rs : List Rl} {k : Nat} (h : firstTo f q rs (k + 1) = k) (hk : k < rs.length) : firstTo f q rs rs.length = k := by
  rw [firstTo_stay (k := k + 1) (by omega) _ (by omega), h]

set_option maxHeartbeats 2000000 in
theorem rfirst_any (A : Option Addr) (rs : List Rl) (cap n : Nat) (f : Fc) (q : Int) (w : World) (B : Nat) (h : Elems tRl w B A rs) (hB : B ≤ w.heap.size) (hn : rs.length = n) (hl : n ≤ 1000) (hf : f.length = 10) :
    Calls Try.prog 37 #[.agg #[.slice A n cap], .agg (fcV f), .int .i64 q] w fun e w' => e = .returned (.int .i64 (firstTo f q rs n)) ∧ Below w.heap.size w w' := by
  subst hn
  obtain ⟨r, hr⟩ : ∃ r, firstTo f q rs rs.length = r := ⟨_, rfl⟩
  rw [hr]
  have Hr := Lib.hid hr
  have HH := Lib.hid h
  have HF := Lib.hid hf
  clear h hr
  go_enter Try.func37, Try.ntmps37
  go_wp2_with fail
  refine forget (fun W => Below w.heap.size w W ∧ Bk W w.heap.size #[.slice A rs.length cap] 24 ∧ Bk W (w.heap.size + 1) (fcV f) 26) ⟨?_, ?_, ?_⟩ ?_
  · (repeat (first | with_reducible exact Below.refl _ _ | with_reducible assumption | with_reducible refine Below.alloc0 ?_ _ | with_reducible refine Below.ext0 ?_ _ | with_reducible refine Below.drew ?_ | with_reducible refine below_drewN ?_ _ | (with_reducible refine Below.setCell (hp := ?hp) ?_ _; case hp => (first | (simp; done) | (simp; omega)))))
  · exact (Bk.new w _ _).alloc _
  · exact bk_new_at _ _ _ _ (by simp)
  rintro W ⟨hw, b0, b1⟩
  have HE := Lib.hid (HH.out.keep (hw.mono hB) (Nat.le_refl _))
  have HW := Lib.hid (And.intro hw (And.intro b0 b1))
  have hBW : B ≤ W.heap.size := Nat.le_trans hB hw.size
  have hl1 := b1.lt
  clear hw b0 b1 HH
  go_loopw [7] (fun i wr => ∃ (k : Nat), k ≤ rs.length ∧ i = .int .i64 k ∧ firstTo f q rs k = -1 ∧ Below W.heap.size W wr) (fun i _ => rs.length - (intOf i).toNat)
  case atStart => exact ⟨0, by omega, rfl, rfl, Below.refl _ _⟩
  case round =>
    obtain ⟨k, hk, rfl, hno, hlow⟩ := hrel
    have hE := HE.out.keep (hlow.mono hBW) (Nat.le_refl _)
    have hb0 := HW.out.2.1.below hlow
    have hb1 := HW.out.2.2.below hlow
    have c0 : wr.cell? ⟨w.heap.size, 0, none⟩ = some (.slice A rs.length cap) := hb0.cell 0
    have l0 := hb0.lt
    have l1 := hb1.lt
    have hws := hlow.size
    have HX := Lib.hid (And.intro hno hlow)
    clear hno hlow
    by_cases hlt : k < rs.length
    · obtain ⟨b, off, kd, nm, AZ, zs, zc, num, rn, rd, sn, sd, rfl, hb, Hk, d0, d1, d2, d3, d4, d5, d6, d7, f1, f2, f3, hZ, _, _⟩ := pick_rule hE hlt
      have bw : b < wr.heap.size := by omega
      have hzl : zs.length ≤ 9223372036854775807 := by unfold maxLen at f3; omega
      have hkl : (k : Int) < (rs.length : Int) := by omega
      obtain ⟨hb', hhb⟩ : ∃ v, (zs.any fun z => inZ z f) = v := ⟨_, rfl⟩
      have hholds := rholds_any kd nm AZ zs zc zs.length num rn rd sn sd f wr.drew B (hZ.keep ((Below.refl _ _).drew) (by omega)) (by show B ≤ wr.heap.size; omega) rfl hzl HF.out
      rw [hhb, fcV_cells HF.out] at hholds
      unfold rlV at hholds
      have Hholds := Lib.hid hholds
      have Hhb := Lib.hid hhb
      have x0 : wr.cell? ⟨w.heap.size + 1, 0, none⟩ = some (.int .i64 (atF f 0)) := by rw [hb1.cell]; exact fcV_at (by rw [HF.out]; omega)
      have x1 : wr.cell? ⟨w.heap.size + 1, 1, none⟩ = some (.int .i64 (atF f 1)) := by rw [hb1.cell]; exact fcV_at (by rw [HF.out]; omega)
      have x2 : wr.cell? ⟨w.heap.size + 1, 2, none⟩ = some (.int .i64 (atF f 2)) := by rw [hb1.cell]; exact fcV_at (by rw [HF.out]; omega)
      have x3 : wr.cell? ⟨w.heap.size + 1, 3, none⟩ = some (.int .i64 (atF f 3)) := by rw [hb1.cell]; exact fcV_at (by rw [HF.out]; omega)
      have x4 : wr.cell? ⟨w.heap.size + 1, 4, none⟩ = some (.int .i64 (atF f 4)) := by rw [hb1.cell]; exact fcV_at (by rw [HF.out]; omega)
      have x5 : wr.cell? ⟨w.heap.size + 1, 5, none⟩ = some (.int .i64 (atF f 5)) := by rw [hb1.cell]; exact fcV_at (by rw [HF.out]; omega)
      have x6 : wr.cell? ⟨w.heap.size + 1, 6, none⟩ = some (.int .i64 (atF f 6)) := by rw [hb1.cell]; exact fcV_at (by rw [HF.out]; omega)
      have x7 : wr.cell? ⟨w.heap.size + 1, 7, none⟩ = some (.int .i64 (atF f 7)) := by rw [hb1.cell]; exact fcV_at (by rw [HF.out]; omega)
      have x8 : wr.cell? ⟨w.heap.size + 1, 8, none⟩ = some (.int .i64 (atF f 8)) := by rw [hb1.cell]; exact fcV_at (by rw [HF.out]; omega)
      have x9 : wr.cell? ⟨w.heap.size + 1, 9, none⟩ = some (.int .i64 (atF f 9)) := by rw [hb1.cell]; exact fcV_at (by rw [HF.out]; omega)
      clear hb0 hb1 hE hZ f1 f2 f3 hhb hholds
      by_cases e : kd = q
      · subst e
        cases hb'
        · have hmiss : Hid (firstTo f kd rs (k + 1) = -1) := Lib.hid (firstTo_miss HX.out.1 Hk.out (by rintro ⟨_, h⟩; exact absurd (Hhb.out.symm.trans h) (by decide)))
          go_wp2_with fail
          refine wp_region_tail 15 (by kernel_rfl) (by kernel_rfl) ?_
          simp only [List.take_succ_cons, List.take_zero, List.drop_succ_cons, List.drop_zero]
          repeat (go_big_quiet_step (fail))
          refine wpQuiet_nil ?_
          go_wp2_with (go_at_call 13; refine Hholds.out.mono ?_; rintro e w' ⟨rfl, hb⟩; obtain ⟨u, rfl⟩ := ext_of hb; clear hb)
          go_roundw
          case rel => exact ⟨k + 1, by omega, by go_num, hmiss.out, Below.ext0 (HX.out.2.drew) _⟩
          case measure => simp [intOf]; omega
        · have hhit : firstTo f kd rs (k + 1) = k := firstTo_hit HX.out.1 Hk.out ⟨rfl, Hhb.out⟩
          obtain rfl : r = k := by rw [← Hr.out]; exact firstTo_end hhit hlt
          clear hhit
          go_wp2_with fail
          refine wp_region_tail 15 (by kernel_rfl) (by kernel_rfl) ?_
          simp only [List.take_succ_cons, List.take_zero, List.drop_succ_cons, List.drop_zero]
          repeat (go_big_quiet_step (fail))
          refine wpQuiet_nil ?_
          go_wp2_with (go_at_call 13; refine Hholds.out.mono ?_; rintro e w' ⟨rfl, hb⟩; obtain ⟨u, rfl⟩ := ext_of hb; clear hb)
          go_ret
          exact ⟨rfl, Below.trans HW.out.1 ((Below.ext0 (HX.out.2.drew) _).mono (by omega))⟩
      · have hmiss : Hid (firstTo f q rs (k + 1) = -1) := Lib.hid (firstTo_miss HX.out.1 Hk.out (by rintro ⟨h, _⟩; exact e h))
        have hne1 : decide (kd = q) = false := decide_eq_false e
        have hne2 : (kd == q) = false := by simp [e]
        go_wp2_with fail
        go_quiet (fail)
        go_wp2_with fail
        go_roundw
        case rel => exact ⟨k + 1, by omega, by go_num, hmiss.out, below_drewN HX.out.2 _⟩
        case measure => simp [intOf]; omega
    · obtain rfl : k = rs.length := by omega
      obtain rfl : r = -1 := by rw [← Hr.out]; exact HX.out.1
      go_wp2_with fail
      go_ret
      exact ⟨rfl, Below.trans HW.out.1 (HX.out.2.mono (by omega))⟩
end Go.Proofs.Ytmklcfmdcfbpeaa
