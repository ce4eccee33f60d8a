/- Layer 13 (decide): the reference's Decide. -/
import Derived.Test.YtmklcfmdcfbpeaaDecS
import Derived.Deep.DeepCutAuto
namespace Go.Proofs.Ytmklcfmdcfbpeaa
open Go.RowKit
set_option linter.unusedVariables false
set_option linter.unusedSimpArgs false
attribute [local go_sem] ext_cell ext_frozen lt_ext ext_drew

/-- What the reference's Decide keeps: its arguments, its result and its decision. -/
structure RD (w X : World) (d : Nat) (A : Option Addr) (n cap : Nat) (f : Fc) (cells : Array Value) : Prop where
  low : Below w.heap.size w X
  pol : Bk X w.heap.size #[.slice A n cap] 24
  fac : Bk X (w.heap.size + 1) (fcV f) 26
  res : Bk X (w.heap.size + 2) (decV false false false 0 0 0 0 0 0 0 0 0 0 0 0 0) 37
  dec : Bk X d cells 37
  far : w.heap.size + 3 < d
theorem RD.set {w X : World} {d : Nat} {A : Option Addr} {n cap : Nat} {f : Fc} {cells : Array Value} (h : RD w X d A n cap f cells) (k : Nat) (v : Value) : RD w (X.setCell ⟨d, k, none⟩ v) d A n cap f (cells.setIfInBounds k v) :=
  have hf := h.far
  ⟨h.low.setCell (by show w.heap.size ≤ d; omega) v, h.pol.far (by show w.heap.size ≠ d; omega) v, h.fac.far (by show w.heap.size + 1 ≠ d; omega) v, h.res.far (by show w.heap.size + 2 ≠ d; omega) v, h.dec.set_ k v, h.far⟩
theorem RD.below {w X X' : World} {d : Nat} {A : Option Addr} {n cap : Nat} {f : Fc} {cells : Array Value} (h : RD w X d A n cap f cells) (hb : Below X.heap.size X X') : RD w X' d A n cap f cells :=
  ⟨Below.trans0 h.low hb, h.pol.below hb, h.fac.below hb, h.res.below hb, h.dec.below hb, h.far⟩

set_option maxRecDepth 100000 in
set_option maxHeartbeats 8000000 in
theorem rdecide_any (A : Option Addr) (rs : List Rl) (cap n : Nat) (f : Fc) (w : World) (B : Nat) (h : Elems tRl w B A rs) (hB : B ≤ w.heap.size) (hn : rs.length = n) (hl : n ≤ 1000) (hf : f.length = 10) :
    Calls Try.prog 17 #[.agg #[.slice A n cap], .agg (fcV f)] w fun e w' => e = .returned (.agg (dcs (runJ f rs n))) ∧ Below w.heap.size w w' := by
  subst hn
  have HH := Lib.hid h
  have HF := Lib.hid hf
  have HS := Lib.hid (sums_run (f := f) (rs := rs) rs.length (Nat.le_refl _))
  obtain ⟨F, hF⟩ : ∃ F : Int → Int, F = fun q => firstTo f q rs rs.length := ⟨_, rfl⟩
  have HFd : Hid (∀ q, firstTo f q rs rs.length = F q) := Lib.hid fun q => by rw [hF]
  have HFirst : Hid (∀ q X, Below w.heap.size w X → Calls Try.prog 37 #[.agg #[.slice A rs.length cap], .agg #[.int .i64 (atF f 0), .int .i64 (atF f 1), .int .i64 (atF f 2), .int .i64 (atF f 3), .int .i64 (atF f 4), .int .i64 (atF f 5), .int .i64 (atF f 6), .int .i64 (atF f 7), .int .i64 (atF f 8), .int .i64 (atF f 9)], .int .i64 q] X fun e w' => e = .returned (.int .i64 (F q)) ∧ Below X.heap.size X w') := Lib.hid fun q X hX => by
    have := rfirst_any A rs cap rs.length f q X B (h.keep (hX.mono hB) (Nat.le_refl _)) (by have := hX.size; omega) rfl hl hf
    rw [fcV_cells hf, HFd.out] at this
    exact this
  clear h hf hF
  go_enter Try.func17, Try.ntmps17
  go_upto_region 2 with (fail)
  refine forget (fun W => Below w.heap.size w W ∧ Bk W w.heap.size #[.slice A rs.length cap] 24 ∧ Bk W (w.heap.size + 1) (fcV f) 26 ∧ Bk W (w.heap.size + 2) (decV false false false 0 0 0 0 0 0 0 0 0 0 0 0 0) 37 ∧ Bk W (w.heap.size + 3) #[.int .i64 0, .int .i64 1] 32) ⟨by (repeat (first | with_reducible exact Below.refl _ _ | with_reducible assumption | with_reducible refine Below.alloc0 ?_ _ | with_reducible refine Below.ext0 ?_ _ | with_reducible refine Below.drew ?_ | with_reducible refine below_drewN ?_ _ | (with_reducible refine Below.setCell (hp := ?hp) ?_ _; case hp => (first | (simp; done) | (simp; omega))))), ?_, ?_, ?_, ?_⟩ ?_
  · exact (((Bk.new w _ _).alloc _).alloc _).alloc _
  · exact ((bk_new_at _ _ _ _ (by simp)).alloc _).alloc _
  · exact (bk_new_at _ _ _ _ (by simp)).alloc _
  · exact bk_new_at _ _ _ _ (by simp)
  rintro W ⟨hw, b0, b1, b2, b3⟩
  have c0 : W.cell? ⟨w.heap.size, 0, none⟩ = some (.slice A rs.length cap) := b0.cell 0
  have x0 : W.cell? ⟨w.heap.size + 1, 0, none⟩ = some (.int .i64 (atF f 0)) := by rw [b1.cell]; exact fcV_at (by rw [HF.out]; omega)
  have x1 : W.cell? ⟨w.heap.size + 1, 1, none⟩ = some (.int .i64 (atF f 1)) := by rw [b1.cell]; exact fcV_at (by rw [HF.out]; omega)
  have x2 : W.cell? ⟨w.heap.size + 1, 2, none⟩ = some (.int .i64 (atF f 2)) := by rw [b1.cell]; exact fcV_at (by rw [HF.out]; omega)
  have x3 : W.cell? ⟨w.heap.size + 1, 3, none⟩ = some (.int .i64 (atF f 3)) := by rw [b1.cell]; exact fcV_at (by rw [HF.out]; omega)
  have x4 : W.cell? ⟨w.heap.size + 1, 4, none⟩ = some (.int .i64 (atF f 4)) := by rw [b1.cell]; exact fcV_at (by rw [HF.out]; omega)
  have x5 : W.cell? ⟨w.heap.size + 1, 5, none⟩ = some (.int .i64 (atF f 5)) := by rw [b1.cell]; exact fcV_at (by rw [HF.out]; omega)
  have x6 : W.cell? ⟨w.heap.size + 1, 6, none⟩ = some (.int .i64 (atF f 6)) := by rw [b1.cell]; exact fcV_at (by rw [HF.out]; omega)
  have x7 : W.cell? ⟨w.heap.size + 1, 7, none⟩ = some (.int .i64 (atF f 7)) := by rw [b1.cell]; exact fcV_at (by rw [HF.out]; omega)
  have x8 : W.cell? ⟨w.heap.size + 1, 8, none⟩ = some (.int .i64 (atF f 8)) := by rw [b1.cell]; exact fcV_at (by rw [HF.out]; omega)
  have x9 : W.cell? ⟨w.heap.size + 1, 9, none⟩ = some (.int .i64 (atF f 9)) := by rw [b1.cell]; exact fcV_at (by rw [HF.out]; omega)
  have c30 : W.cell? ⟨w.heap.size + 3, 0, none⟩ = some (.int .i64 0) := b3.cell 0
  have c31 : W.cell? ⟨w.heap.size + 3, 1, none⟩ = some (.int .i64 1) := b3.cell 1
  have l0 := b0.lt
  have l1 := b1.lt
  have l3 := b3.lt
  have HW := Lib.hid (And.intro b0 (And.intro b1 (And.intro b2 b3)))
  clear b0 b1 b2 b3
  go_upto_region 7 with (go_at_call 37; refine (HFirst.out _ _ (by (repeat (first | with_reducible exact Below.refl _ _ | with_reducible assumption | with_reducible refine Below.alloc0 ?_ _ | with_reducible refine Below.ext0 ?_ _ | with_reducible refine Below.drew ?_ | with_reducible refine below_drewN ?_ _ | (with_reducible refine Below.setCell (hp := ?hp) ?_ _; case hp => (first | (simp; done) | (simp; omega))))))).mono ?_; rintro e w' ⟨rfl, hb⟩; (first | (obtain ⟨u, rfl⟩ := ext_more hb; clear hb) | (obtain ⟨u, rfl⟩ := ext_more_alloc hb; clear hb) | (obtain ⟨u, rfl⟩ := ext_of hb; clear hb)))
  refine forget (fun W2 => Below w.heap.size w W2 ∧ Bk W2 w.heap.size #[.slice A rs.length cap] 24 ∧ Bk W2 (w.heap.size + 1) (fcV f) 26 ∧ Bk W2 (w.heap.size + 2) (decV false false false 0 0 0 0 0 0 0 0 0 0 0 0 0) 37 ∧ Bk W2 (w.heap.size + 3) #[.int .i64 0, .int .i64 1] 32) ⟨Below.ext0 hw _, HW.out.1.ext _, HW.out.2.1.ext _, HW.out.2.2.1.ext _, HW.out.2.2.2.ext _⟩ ?_
  clear hw c0 x0 x1 x2 x3 x4 x5 x6 x7 x8 x9 c30 c31 l0 l1 l3 HW
  rintro W2 ⟨hw, b0, b1, b2, b3⟩
  have c30 : W2.cell? ⟨w.heap.size + 3, 0, none⟩ = some (.int .i64 0) := b3.cell 0
  have c31 : W2.cell? ⟨w.heap.size + 3, 1, none⟩ = some (.int .i64 1) := b3.cell 1
  have l3 := b3.lt
  go_upto_region 8 with (fail)
  refine forget (fun X => RD w X W2.heap.size A rs.length cap f (decV false false false 0 0 0 1 0 1 0 1 0 1 0 1 (F 1))) ⟨Below.alloc0 hw _, b0.alloc _, b1.alloc _, b2.alloc _, Bk.new W2 _ _, l3⟩ ?_
  clear hw b0 b1 b2 b3 c30 c31 l3
  generalize W2.heap.size = d at *
  obtain ⟨ok, hok⟩ : ∃ v, (decide (0 ≤ F 1) && decide (0 ≤ F 3) && decide (F 2 < 0)) = v := ⟨_, rfl⟩
  have Hok := Lib.hid hok
  clear hok
  intro X hX
  have ld := hX.dec.lt
  have f0 := hX.dec.free 0
  have c0 : X.cell? ⟨d, 0, none⟩ = some (.bool false) := hX.dec.cell 0
  have HX := Lib.hid hX
  clear hX
  go_cut [] (fun X => RD w X d A rs.length cap f (decV ok false false 0 0 0 1 0 1 0 1 0 1 0 1 (F 1)))
  case first =>
    by_cases h1 : 0 ≤ F 1
    · have z1 : decide (0 ≤ F 1) = true := decide_eq_true h1
      by_cases h3 : 0 ≤ F 3
      · have z3 : decide (0 ≤ F 3) = true := decide_eq_true h3
        by_cases h2 : F 2 < 0
        · have z2 : decide (F 2 < 0) = true := decide_eq_true h2
          have hv : ok = true := by rw [← Hok.out, z1, z3, z2]; rfl
          subst hv
          go_wp2_with fail
          go_meet
          exact HX.out.set 0 _
        · have z2 : decide (F 2 < 0) = false := decide_eq_false h2
          have hv : ok = false := by rw [← Hok.out, z1, z3, z2]; rfl
          subst hv
          go_wp2_with fail
          go_meet
          exact HX.out.set 0 _
      · have z3 : decide (0 ≤ F 3) = false := decide_eq_false h3
        have hv : ok = false := by rw [← Hok.out, z1, z3]; rfl
        subst hv
        go_wp2_with fail
        go_meet
        exact HX.out.set 0 _
    · have z1 : decide (0 ≤ F 1) = false := decide_eq_false h1
      have hv : ok = false := by rw [← Hok.out, z1]; rfl
      subst hv
      go_wp2_with fail
      go_meet
      exact HX.out.set 0 _
  case rest =>
  obtain ⟨Y, hY9⟩ : ∃ Y, Y = wc := ⟨_, rfl⟩
  rw [← hY9] at hcut ⊢
  clear hY9 c0 f0 ld HX
  have HX := Lib.hid hcut
  clear hcut
  have hlow := HX.out.low
  have hfar := HX.out.far
  have ld := HX.out.dec.lt
  have l0 := HX.out.pol.lt
  have l1 := HX.out.fac.lt
  have c0 : Y.cell? ⟨w.heap.size, 0, none⟩ = some (.slice A rs.length cap) := HX.out.pol.cell 0
  have x0 : Y.cell? ⟨w.heap.size + 1, 0, none⟩ = some (.int .i64 (atF f 0)) := by rw [HX.out.fac.cell]; exact fcV_at (by rw [HF.out]; omega)
  have x1 : Y.cell? ⟨w.heap.size + 1, 1, none⟩ = some (.int .i64 (atF f 1)) := by rw [HX.out.fac.cell]; exact fcV_at (by rw [HF.out]; omega)
  have x2 : Y.cell? ⟨w.heap.size + 1, 2, none⟩ = some (.int .i64 (atF f 2)) := by rw [HX.out.fac.cell]; exact fcV_at (by rw [HF.out]; omega)
  have x3 : Y.cell? ⟨w.heap.size + 1, 3, none⟩ = some (.int .i64 (atF f 3)) := by rw [HX.out.fac.cell]; exact fcV_at (by rw [HF.out]; omega)
  have x4 : Y.cell? ⟨w.heap.size + 1, 4, none⟩ = some (.int .i64 (atF f 4)) := by rw [HX.out.fac.cell]; exact fcV_at (by rw [HF.out]; omega)
  have x5 : Y.cell? ⟨w.heap.size + 1, 5, none⟩ = some (.int .i64 (atF f 5)) := by rw [HX.out.fac.cell]; exact fcV_at (by rw [HF.out]; omega)
  have x6 : Y.cell? ⟨w.heap.size + 1, 6, none⟩ = some (.int .i64 (atF f 6)) := by rw [HX.out.fac.cell]; exact fcV_at (by rw [HF.out]; omega)
  have x7 : Y.cell? ⟨w.heap.size + 1, 7, none⟩ = some (.int .i64 (atF f 7)) := by rw [HX.out.fac.cell]; exact fcV_at (by rw [HF.out]; omega)
  have x8 : Y.cell? ⟨w.heap.size + 1, 8, none⟩ = some (.int .i64 (atF f 8)) := by rw [HX.out.fac.cell]; exact fcV_at (by rw [HF.out]; omega)
  have x9 : Y.cell? ⟨w.heap.size + 1, 9, none⟩ = some (.int .i64 (atF f 9)) := by rw [HX.out.fac.cell]; exact fcV_at (by rw [HF.out]; omega)
  have d1 : Y.cell? ⟨d, 1, none⟩ = some (.bool false) := HX.out.dec.cell 1
  have f1 := HX.out.dec.free 1
  go_upto_region 10 with (go_at_call 37; refine (HFirst.out _ _ (by (repeat (first | with_reducible exact Below.refl _ _ | with_reducible assumption | with_reducible refine Below.alloc0 ?_ _ | with_reducible refine Below.ext0 ?_ _ | with_reducible refine Below.drew ?_ | with_reducible refine below_drewN ?_ _ | (with_reducible refine Below.setCell (hp := ?hp) ?_ _; case hp => (first | (simp; done) | (simp; omega))))))).mono ?_; rintro e w' ⟨rfl, hb⟩; (first | (obtain ⟨u, rfl⟩ := ext_more hb; clear hb) | (obtain ⟨u, rfl⟩ := ext_more_alloc hb; clear hb) | (obtain ⟨u, rfl⟩ := ext_of hb; clear hb)))
  refine forget (fun X => RD w X d A rs.length cap f (decV ok (decide (0 ≤ F 6)) false 0 0 0 1 0 1 0 1 0 1 0 1 (F 1))) ((HX.out.below (below_ext _ _)).set 1 _) ?_
  clear hlow hfar ld l0 l1 c0 x0 x1 x2 x3 x4 x5 x6 x7 x8 x9 d1 f1 HX
  intro Z hX
  have HX := Lib.hid hX
  clear hX
  have hlow := HX.out.low
  have hfar := HX.out.far
  have ld := HX.out.dec.lt
  have l0 := HX.out.pol.lt
  have l1 := HX.out.fac.lt
  have c0 : Z.cell? ⟨w.heap.size, 0, none⟩ = some (.slice A rs.length cap) := HX.out.pol.cell 0
  have x0 : Z.cell? ⟨w.heap.size + 1, 0, none⟩ = some (.int .i64 (atF f 0)) := by rw [HX.out.fac.cell]; exact fcV_at (by rw [HF.out]; omega)
  have x1 : Z.cell? ⟨w.heap.size + 1, 1, none⟩ = some (.int .i64 (atF f 1)) := by rw [HX.out.fac.cell]; exact fcV_at (by rw [HF.out]; omega)
  have x2 : Z.cell? ⟨w.heap.size + 1, 2, none⟩ = some (.int .i64 (atF f 2)) := by rw [HX.out.fac.cell]; exact fcV_at (by rw [HF.out]; omega)
  have x3 : Z.cell? ⟨w.heap.size + 1, 3, none⟩ = some (.int .i64 (atF f 3)) := by rw [HX.out.fac.cell]; exact fcV_at (by rw [HF.out]; omega)
  have x4 : Z.cell? ⟨w.heap.size + 1, 4, none⟩ = some (.int .i64 (atF f 4)) := by rw [HX.out.fac.cell]; exact fcV_at (by rw [HF.out]; omega)
  have x5 : Z.cell? ⟨w.heap.size + 1, 5, none⟩ = some (.int .i64 (atF f 5)) := by rw [HX.out.fac.cell]; exact fcV_at (by rw [HF.out]; omega)
  have x6 : Z.cell? ⟨w.heap.size + 1, 6, none⟩ = some (.int .i64 (atF f 6)) := by rw [HX.out.fac.cell]; exact fcV_at (by rw [HF.out]; omega)
  have x7 : Z.cell? ⟨w.heap.size + 1, 7, none⟩ = some (.int .i64 (atF f 7)) := by rw [HX.out.fac.cell]; exact fcV_at (by rw [HF.out]; omega)
  have x8 : Z.cell? ⟨w.heap.size + 1, 8, none⟩ = some (.int .i64 (atF f 8)) := by rw [HX.out.fac.cell]; exact fcV_at (by rw [HF.out]; omega)
  have x9 : Z.cell? ⟨w.heap.size + 1, 9, none⟩ = some (.int .i64 (atF f 9)) := by rw [HX.out.fac.cell]; exact fcV_at (by rw [HF.out]; omega)
  have d2 : Z.cell? ⟨d, 2, none⟩ = some (.bool false) := HX.out.dec.cell 2
  have f2 := HX.out.dec.free 2
  go_upto_region 11 with (go_at_call 37; refine (HFirst.out _ _ (by (repeat (first | with_reducible exact Below.refl _ _ | with_reducible assumption | with_reducible refine Below.alloc0 ?_ _ | with_reducible refine Below.ext0 ?_ _ | with_reducible refine Below.drew ?_ | with_reducible refine below_drewN ?_ _ | (with_reducible refine Below.setCell (hp := ?hp) ?_ _; case hp => (first | (simp; done) | (simp; omega))))))).mono ?_; rintro e w' ⟨rfl, hb⟩; (first | (obtain ⟨u, rfl⟩ := ext_more hb; clear hb) | (obtain ⟨u, rfl⟩ := ext_more_alloc hb; clear hb) | (obtain ⟨u, rfl⟩ := ext_of hb; clear hb)))
  refine forget (fun X => RD w X d A rs.length cap f (decV ok (decide (0 ≤ F 6)) (decide (0 ≤ F 7)) 0 0 0 1 0 1 0 1 0 1 0 1 (F 1))) ((HX.out.below (below_ext _ _)).set 2 _) ?_
  clear hlow hfar ld l0 l1 c0 x0 x1 x2 x3 x4 x5 x6 x7 x8 x9 d2 f2 HX HFirst
  obtain ⟨T6, hT6⟩ : ∃ v, decide (0 ≤ F 6) = v := ⟨_, rfl⟩
  obtain ⟨T7, hT7⟩ : ∃ v, decide (0 ≤ F 7) = v := ⟨_, rfl⟩
  rw [hT6, hT7]
  have HT6 := Lib.hid hT6
  have HT7 := Lib.hid hT7
  clear hT6 hT7
  intro V hX
  have HV := Lib.hid hX
  clear hX
  go_wp2_with fail
  go_loopw [12] (fun i wr => ∃ (k : Nat), k ≤ rs.length ∧ i = .int .i64 k ∧ RD w wr d A rs.length cap f (decV ok T6 T7 (runJ f rs k).lim 0 0 1 0 1 0 1 0 1 0 1 (F 1))) (fun i _ => rs.length - (intOf i).toNat)
  case atStart => exact ⟨0, by omega, rfl, HV.out⟩
  case round =>
    obtain ⟨k, hk, rfl, hX⟩ := hrel
    have HX := Lib.hid hX
    clear hX
    have hlow := HX.out.low
    have hfar := HX.out.far
    have ld := HX.out.dec.lt
    have l0 := HX.out.pol.lt
    have l1 := HX.out.fac.lt
    have c0 : wr.cell? ⟨w.heap.size, 0, none⟩ = some (.slice A rs.length cap) := HX.out.pol.cell 0
    have x0 : wr.cell? ⟨w.heap.size + 1, 0, none⟩ = some (.int .i64 (atF f 0)) := by rw [HX.out.fac.cell]; exact fcV_at (by rw [HF.out]; omega)
    have x1 : wr.cell? ⟨w.heap.size + 1, 1, none⟩ = some (.int .i64 (atF f 1)) := by rw [HX.out.fac.cell]; exact fcV_at (by rw [HF.out]; omega)
    have x2 : wr.cell? ⟨w.heap.size + 1, 2, none⟩ = some (.int .i64 (atF f 2)) := by rw [HX.out.fac.cell]; exact fcV_at (by rw [HF.out]; omega)
    have x3 : wr.cell? ⟨w.heap.size + 1, 3, none⟩ = some (.int .i64 (atF f 3)) := by rw [HX.out.fac.cell]; exact fcV_at (by rw [HF.out]; omega)
    have x4 : wr.cell? ⟨w.heap.size + 1, 4, none⟩ = some (.int .i64 (atF f 4)) := by rw [HX.out.fac.cell]; exact fcV_at (by rw [HF.out]; omega)
    have x5 : wr.cell? ⟨w.heap.size + 1, 5, none⟩ = some (.int .i64 (atF f 5)) := by rw [HX.out.fac.cell]; exact fcV_at (by rw [HF.out]; omega)
    have x6 : wr.cell? ⟨w.heap.size + 1, 6, none⟩ = some (.int .i64 (atF f 6)) := by rw [HX.out.fac.cell]; exact fcV_at (by rw [HF.out]; omega)
    have x7 : wr.cell? ⟨w.heap.size + 1, 7, none⟩ = some (.int .i64 (atF f 7)) := by rw [HX.out.fac.cell]; exact fcV_at (by rw [HF.out]; omega)
    have x8 : wr.cell? ⟨w.heap.size + 1, 8, none⟩ = some (.int .i64 (atF f 8)) := by rw [HX.out.fac.cell]; exact fcV_at (by rw [HF.out]; omega)
    have x9 : wr.cell? ⟨w.heap.size + 1, 9, none⟩ = some (.int .i64 (atF f 9)) := by rw [HX.out.fac.cell]; exact fcV_at (by rw [HF.out]; omega)
    by_cases hlt : k < rs.length
    · have hE := HH.out.keep (hlow.mono hB) (Nat.le_refl _)
      have hBr : B ≤ wr.heap.size := by omega
      obtain ⟨b, off, kd, nm, AZ, zs, zc, num, rn, rd, sn, sd, rfl, hb, Hk, e0, e1, e2, e3, e4, e5, e6, e7, g1, g2, g3, hZ, _, _⟩ := pick_rule hE hlt
      have bw : b < wr.heap.size := by omega
      have hzl : zs.length ≤ 9223372036854775807 := by unfold maxLen at g3; omega
      have hkl : (k : Int) < (rs.length : Int) := by omega
      obtain ⟨hb', hhb⟩ : ∃ v, (zs.any fun z => inZ z f) = v := ⟨_, rfl⟩
      have hbd : b ≠ d := by have := HX.out.far; omega
      have hholds : ∀ Z, Below wr.heap.size wr Z → Calls Try.prog 13 #[.agg #[.int .i64 kd, .string nm, .slice AZ zs.length zc, .int .i64 num, .int .i64 rn, .int .i64 rd, .int .i64 sn, .int .i64 sd], .agg #[.int .i64 (atF f 0), .int .i64 (atF f 1), .int .i64 (atF f 2), .int .i64 (atF f 3), .int .i64 (atF f 4), .int .i64 (atF f 5), .int .i64 (atF f 6), .int .i64 (atF f 7), .int .i64 (atF f 8), .int .i64 (atF f 9)]] Z fun e w' => e = .returned (.bool hb') ∧ Below Z.heap.size Z w' := fun Z hZ2 => by
        have := rholds_any kd nm AZ zs zc zs.length num rn rd sn sd f Z B (hZ.keep (hZ2.mono hBr) (Nat.le_refl _)) (by have := hZ2.size; omega) rfl hzl HF.out
        rw [hhb, fcV_cells HF.out] at this
        exact this
      have Hholds := Lib.hid (hholds _ (below_self wr (.cells #[.int .i64 kd, .string nm, .slice AZ zs.length zc, .int .i64 num, .int .i64 rn, .int .i64 rd, .int .i64 sn, .int .i64 sd] 34)))
      have Hlim := Lib.hid (lim_step (f := f) Hk.out)
      have hlimE : Hid ((runJ f rs (k + 1)).lim = if kd = 1 ∧ hb' = true ∧ 0 < num ∧ ((runJ f rs k).lim = 0 ∨ num < (runJ f rs k).lim) then num else (runJ f rs k).lim) := Lib.hid (by rw [Hlim.out]; unfold holdsB; simp only [hhb])
      have d3 : wr.cell? ⟨d, 3, none⟩ = some (.int .i64 (runJ f rs k).lim) := HX.out.dec.cell 3
      have f3 := HX.out.dec.free 3
      clear Hlim hholds hE hZ g1 g2 g3 hhb hlow
      generalize (runJ f rs k).lim = L at *
      have hpast : Hid (∀ v : Int, (runJ f rs (k + 1)).lim = v → ∀ X, RD w X d (some ⟨b, off, none⟩) rs.length cap f (decV ok T6 T7 v 0 0 1 0 1 0 1 0 1 0 1 (F 1)) → RD w X d (some ⟨b, off, none⟩) rs.length cap f (decV ok T6 T7 (runJ f rs (k + 1)).lim 0 0 1 0 1 0 1 0 1 0 1 (F 1))) := Lib.hid fun v hv X h => by rw [hv]; exact h
      by_cases k1 : kd = 1
      · subst k1
        cases hb'
        · have he : (runJ f rs (k + 1)).lim = L := by rw [hlimE.out]; simp
          have He := Lib.hid he
          clear he
          as_aux_lemma =>
            go_wp2_with (go_at_call 13; refine Hholds.out.mono ?_; rintro e w' ⟨rfl, hb⟩; obtain ⟨u, rfl⟩ := ext_of hb; clear hb)
            go_roundw
            case rel => exact ⟨k + 1, by omega, by go_num, hpast.out _ He.out _ ((HX.out.below (below_self _ _)).below (below_ext _ _))⟩
            case measure => simp [intOf]; omega
        · by_cases hn : 0 < num
          · by_cases h0 : L = 0
            · subst h0
              have he : (runJ f rs (k + 1)).lim = num := by rw [hlimE.out]; simp [hn]
              have He := Lib.hid he
              clear he
              as_aux_lemma =>
                go_wp2_with (go_at_call 13; refine Hholds.out.mono ?_; rintro e w' ⟨rfl, hb⟩; obtain ⟨u, rfl⟩ := ext_of hb; clear hb)
                go_roundw
                case rel => exact ⟨k + 1, by omega, by go_num, hpast.out _ He.out _ (((HX.out.below (below_self _ _)).below (below_ext _ _)).set 3 _)⟩
                case measure => simp [intOf]; omega
            · have h02 : (L == 0) = false := by simp [h0]
              have h03 : decide (L = 0) = false := decide_eq_false h0
              by_cases h1 : num < L
              · have he : (runJ f rs (k + 1)).lim = num := by rw [hlimE.out]; simp [hn, h1]
                have He := Lib.hid he
                clear he
                as_aux_lemma =>
                  go_wp2_with (go_at_call 13; refine Hholds.out.mono ?_; rintro e w' ⟨rfl, hb⟩; obtain ⟨u, rfl⟩ := ext_of hb; clear hb)
                  go_roundw
                  case rel => exact ⟨k + 1, by omega, by go_num, hpast.out _ He.out _ (((HX.out.below (below_self _ _)).below (below_ext _ _)).set 3 _)⟩
                  case measure => simp [intOf]; omega
              · have h12 : decide (num < L) = false := decide_eq_false h1
                have he : (runJ f rs (k + 1)).lim = L := by rw [hlimE.out]; simp [h0, h1]
                have He := Lib.hid he
                clear he
                as_aux_lemma =>
                  go_wp2_with (go_at_call 13; refine Hholds.out.mono ?_; rintro e w' ⟨rfl, hb⟩; obtain ⟨u, rfl⟩ := ext_of hb; clear hb)
                  go_roundw
                  case rel => exact ⟨k + 1, by omega, by go_num, hpast.out _ He.out _ ((HX.out.below (below_self _ _)).below (below_ext _ _))⟩
                  case measure => simp [intOf]; omega
          · have hn2 : decide (0 < num) = false := decide_eq_false hn
            have he : (runJ f rs (k + 1)).lim = L := by rw [hlimE.out]; simp [hn]
            have He := Lib.hid he
            clear he
            as_aux_lemma =>
              go_wp2_with (go_at_call 13; refine Hholds.out.mono ?_; rintro e w' ⟨rfl, hb⟩; obtain ⟨u, rfl⟩ := ext_of hb; clear hb)
              go_roundw
              case rel => exact ⟨k + 1, by omega, by go_num, hpast.out _ He.out _ ((HX.out.below (below_self _ _)).below (below_ext _ _))⟩
              case measure => simp [intOf]; omega
      · have k12 : (kd == 1) = false := by simp [k1]
        have k13 : decide (kd = 1) = false := decide_eq_false k1
        have he : (runJ f rs (k + 1)).lim = L := by rw [hlimE.out]; simp [k1]
        have He := Lib.hid he
        clear he
        as_aux_lemma =>
          go_wp2_with fail
          go_roundw
          case rel => exact ⟨k + 1, by omega, by go_num, hpast.out _ He.out _ (HX.out.below (below_self _ _))⟩
          case measure => simp [intOf]; omega
    -- TAIL
    · obtain rfl : k = rs.length := by omega
      have hS := HS.out
      obtain ⟨S, hSe⟩ : ∃ S, runJ f rs rs.length = S := ⟨_, rfl⟩
      have HSe := Lib.hid hSe
      have hX := HX.out
      rw [hSe] at hX hS
      obtain ⟨tg, si, lim, price, fn, fd, tn, td, cn, cd, sn, sd, rn, rd, pr, so, ba, al, de⟩ := S
      have hX2 : RD w wr d A rs.length cap f (decV ok T6 T7 lim 0 0 1 0 1 0 1 0 1 0 1 (F 1)) := hX
      have Hal : Hid (al = F 1) := Lib.hid (hS.al.trans (HFd.out 1))
      have Hde : Hid (de = F 2) := Lib.hid (hS.de.trans (HFd.out 2))
      have Hpr : Hid (pr = decide (0 ≤ F 3)) := Lib.hid (by rw [← HFd.out]; exact hS.pr)
      have Htg : Hid (tg = decide (0 ≤ F 6)) := Lib.hid (by rw [← HFd.out]; exact hS.tg)
      have Hsi : Hid (si = decide (0 ≤ F 7)) := Lib.hid (by rw [← HFd.out]; exact hS.si)
      have P3 : Hid ((F 3 < 0 → price = 0 ∧ fn = 0 ∧ fd = 1 ∧ tn = 0 ∧ td = 1) ∧ ∀ i : Nat, F 3 = i → ∃ r, rs[i]? = some r ∧ price = r.2.2.2.1 ∧ fn = r.2.2.2.2.1.1 ∧ fd = r.2.2.2.2.1.2 ∧ tn = r.2.2.2.2.2.1 ∧ td = r.2.2.2.2.2.2) := Lib.hid (by rw [← HFd.out]; exact ⟨hS.p0, hS.p1⟩)
      have P4 : Hid ((F 4 < 0 → cn = 0 ∧ cd = 1 ∧ sn = 0 ∧ sd = 1) ∧ ∀ i : Nat, F 4 = i → ∃ r, rs[i]? = some r ∧ cn = r.2.2.2.2.1.1 ∧ cd = r.2.2.2.2.1.2 ∧ sn = r.2.2.2.2.2.1 ∧ sd = r.2.2.2.2.2.2) := Lib.hid (by rw [← HFd.out]; exact ⟨hS.c0, hS.c1⟩)
      have P5 : Hid ((F 5 < 0 → rn = 0 ∧ rd = 1) ∧ ∀ i : Nat, F 5 = i → ∃ r, rs[i]? = some r ∧ rn = r.2.2.2.2.1.1 ∧ rd = r.2.2.2.2.1.2) := Lib.hid (by rw [← HFd.out]; exact ⟨hS.b0, hS.b1⟩)
      have BF : Hid (∀ q, F q < rs.length) := Lib.hid fun q => by rw [← HFd.out]; exact (firstTo_lo f q rs rs.length).2
      have hln : (rs.length : Int) ≤ 1000 := by omega
      clear hS hSe hX HX HV hlow hfar ld l0 l1 c0 x0 x1 x2 x3 x4 x5 x6 x7 x8 x9
      have HX := Lib.hid hX2
      clear hX2
      have hlow := HX.out.low
      have hfar := HX.out.far
      have ld := HX.out.dec.lt
      have l0 := HX.out.pol.lt
      have c0 : wr.cell? ⟨w.heap.size, 0, none⟩ = some (.slice A rs.length cap) := HX.out.pol.cell 0
      have d4 : wr.cell? ⟨d, 4, none⟩ = some (.int .i64 0) := HX.out.dec.cell 4
      have f4 := HX.out.dec.free 4
      have d5 : wr.cell? ⟨d, 5, none⟩ = some (.int .i64 0) := HX.out.dec.cell 5
      have f5 := HX.out.dec.free 5
      have d6 : wr.cell? ⟨d, 6, none⟩ = some (.int .i64 1) := HX.out.dec.cell 6
      have f6 := HX.out.dec.free 6
      have d7 : wr.cell? ⟨d, 7, none⟩ = some (.int .i64 0) := HX.out.dec.cell 7
      have f7 := HX.out.dec.free 7
      have d8 : wr.cell? ⟨d, 8, none⟩ = some (.int .i64 1) := HX.out.dec.cell 8
      have f8 := HX.out.dec.free 8
      go_upto_if 99 with (fail)
      go_cut [] (fun X => RD w X d A rs.length cap f (decV ok T6 T7 lim price fn fd tn td 0 1 0 1 0 1 (F 1)))
      case first =>
        by_cases hp : 0 ≤ F 3
        · obtain ⟨p, hp3⟩ : ∃ p : Nat, F 3 = p := ⟨(F 3).toNat, by omega⟩
          have hlt : p < rs.length := by have := BF.out 3; omega
          have hE := HH.out.keep (hlow.mono hB) (Nat.le_refl _)
          have hBr : B ≤ wr.heap.size := by omega
          obtain ⟨r, hr, q0, q1, q2, q3, q4⟩ := P3.out.2 p hp3
          obtain ⟨b, off, kd', nm', AZ', zs', zc', num', rn', rd', sn', sd', rfl, hb, Hk, e0, e1, e2, e3, e4, e5, e6, e7, g1, g2, g3, hZ, _, _⟩ := pick_rule hE hlt
          have bw : b < wr.heap.size := by omega
          have hbd : b ≠ d := by omega
          have hrr : r = (kd', nm', zs', num', (rn', rd'), (sn', sd')) := by have := hr.symm.trans Hk.out; simpa using this
          subst hrr
          dsimp only at q0 q1 q2 q3 q4
          clear hr hE hZ g1 g2 g3
          subst q0 q1 q2 q3 q4
          have zp : decide ((0 : Int) ≤ (p : Int)) = true := by simp
          have hpl : (p : Int) < (rs.length : Int) := by omega
          have HP := Lib.hid hp3
          rw [hp3]
          clear hp hp3
          go_wp2_with fail
          rw [← HP.out]
          go_meet
          exact (((((HX.out.set 4 _).set 5 _).set 6 _).set 7 _).set 8 _)
        · have zp : decide (0 ≤ F 3) = false := decide_eq_false hp
          obtain ⟨q0, q1, q2, q3, q4⟩ := P3.out.1 (by omega)
          subst q0 q1 q2 q3 q4
          go_wp2_with fail
          go_meet
          exact HX.out
      case rest =>
      obtain ⟨X3, hY9⟩ : ∃ Y, Y = wc := ⟨_, rfl⟩
      rw [← hY9] at hcut ⊢
      clear hY9 HX hlow hfar ld l0 c0 d4 f4 d5 f5 d6 f6 d7 f7 d8 f8
      have HX := Lib.hid hcut
      clear hcut
      have hlow := HX.out.low
      have hfar := HX.out.far
      have ld := HX.out.dec.lt
      have l0 := HX.out.pol.lt
      have c0 : X3.cell? ⟨w.heap.size, 0, none⟩ = some (.slice A rs.length cap) := HX.out.pol.cell 0
      have d9 : X3.cell? ⟨d, 9, none⟩ = some (.int .i64 0) := HX.out.dec.cell 9
      have f9 := HX.out.dec.free 9
      have d10 : X3.cell? ⟨d, 10, none⟩ = some (.int .i64 1) := HX.out.dec.cell 10
      have f10 := HX.out.dec.free 10
      have d11 : X3.cell? ⟨d, 11, none⟩ = some (.int .i64 0) := HX.out.dec.cell 11
      have f11 := HX.out.dec.free 11
      have d12 : X3.cell? ⟨d, 12, none⟩ = some (.int .i64 1) := HX.out.dec.cell 12
      have f12 := HX.out.dec.free 12
      go_upto_if 122 with (fail)
      go_cut [] (fun X => RD w X d A rs.length cap f (decV ok T6 T7 lim price fn fd tn td cn cd sn sd 0 1 (F 1)))
      case first =>
        by_cases hp : 0 ≤ F 4
        · obtain ⟨p, hp3⟩ : ∃ p : Nat, F 4 = p := ⟨(F 4).toNat, by omega⟩
          have hlt : p < rs.length := by have := BF.out 4; omega
          have hE := HH.out.keep (hlow.mono hB) (Nat.le_refl _)
          have hBr : B ≤ X3.heap.size := by omega
          obtain ⟨r, hr, q0, q1, q2, q3⟩ := P4.out.2 p hp3
          obtain ⟨b, off, kd', nm', AZ', zs', zc', num', rn', rd', sn', sd', rfl, hb, Hk, e0, e1, e2, e3, e4, e5, e6, e7, g1, g2, g3, hZ, _, _⟩ := pick_rule hE hlt
          have bw : b < X3.heap.size := by omega
          have hbd : b ≠ d := by omega
          have hrr : r = (kd', nm', zs', num', (rn', rd'), (sn', sd')) := by have := hr.symm.trans Hk.out; simpa using this
          subst hrr
          dsimp only at q0 q1 q2 q3
          clear hr hE hZ g1 g2 g3
          subst q0 q1 q2 q3
          have zp : decide ((0 : Int) ≤ (p : Int)) = true := by simp
          have hpl : (p : Int) < (rs.length : Int) := by omega
          have HP := Lib.hid hp3
          rw [hp3]
          clear hp hp3
          go_wp2_with fail
          rw [← HP.out]
          go_meet
          exact ((((HX.out.set 9 _).set 10 _).set 11 _).set 12 _)
        · have zp : decide (0 ≤ F 4) = false := decide_eq_false hp
          obtain ⟨q0, q1, q2, q3⟩ := P4.out.1 (by omega)
          subst q0 q1 q2 q3
          go_wp2_with fail
          go_meet
          exact HX.out
      case rest =>
      obtain ⟨X4, hY9⟩ : ∃ Y, Y = wc := ⟨_, rfl⟩
      rw [← hY9] at hcut ⊢
      clear hY9 HX hlow hfar ld l0 c0 d9 f9 d10 f10 d11 f11 d12 f12
      have HX := Lib.hid hcut
      clear hcut
      have hlow := HX.out.low
      have hfar := HX.out.far
      have ld := HX.out.dec.lt
      have l0 := HX.out.pol.lt
      have c0 : X4.cell? ⟨w.heap.size, 0, none⟩ = some (.slice A rs.length cap) := HX.out.pol.cell 0
      have d13 : X4.cell? ⟨d, 13, none⟩ = some (.int .i64 0) := HX.out.dec.cell 13
      have f13 := HX.out.dec.free 13
      have d14 : X4.cell? ⟨d, 14, none⟩ = some (.int .i64 1) := HX.out.dec.cell 14
      have f14 := HX.out.dec.free 14
      go_upto_if 138 with (fail)
      go_cut [] (fun X => RD w X d A rs.length cap f (decV ok T6 T7 lim price fn fd tn td cn cd sn sd rn rd (F 1)))
      case first =>
        by_cases hp : 0 ≤ F 5
        · obtain ⟨p, hp3⟩ : ∃ p : Nat, F 5 = p := ⟨(F 5).toNat, by omega⟩
          have hlt : p < rs.length := by have := BF.out 5; omega
          have hE := HH.out.keep (hlow.mono hB) (Nat.le_refl _)
          have hBr : B ≤ X4.heap.size := by omega
          obtain ⟨r, hr, q0, q1⟩ := P5.out.2 p hp3
          obtain ⟨b, off, kd', nm', AZ', zs', zc', num', rn', rd', sn', sd', rfl, hb, Hk, e0, e1, e2, e3, e4, e5, e6, e7, g1, g2, g3, hZ, _, _⟩ := pick_rule hE hlt
          have bw : b < X4.heap.size := by omega
          have hbd : b ≠ d := by omega
          have hrr : r = (kd', nm', zs', num', (rn', rd'), (sn', sd')) := by have := hr.symm.trans Hk.out; simpa using this
          subst hrr
          dsimp only at q0 q1
          clear hr hE hZ g1 g2 g3
          subst q0 q1
          have zp : decide ((0 : Int) ≤ (p : Int)) = true := by simp
          have hpl : (p : Int) < (rs.length : Int) := by omega
          have HP := Lib.hid hp3
          rw [hp3]
          clear hp hp3
          go_wp2_with fail
          rw [← HP.out]
          go_meet
          exact ((HX.out.set 13 _).set 14 _)
        · have zp : decide (0 ≤ F 5) = false := decide_eq_false hp
          obtain ⟨q0, q1⟩ := P5.out.1 (by omega)
          subst q0 q1
          go_wp2_with fail
          go_meet
          exact HX.out
      case rest =>
      obtain ⟨X5, hY9⟩ : ∃ Y, Y = wc := ⟨_, rfl⟩
      rw [← hY9] at hcut ⊢
      clear hY9 HX hlow hfar ld l0 c0 d13 f13 d14 f14
      have HX := Lib.hid hcut
      clear hcut
      have hlow := HX.out.low
      have hfar := HX.out.far
      have ld := HX.out.dec.lt
      have d15 : X5.cell? ⟨d, 15, none⟩ = some (.int .i64 (F 1)) := HX.out.dec.cell 15
      have f15 := HX.out.dec.free 15
      obtain ⟨yb, hyb⟩ : ∃ v, (if 0 ≤ F 2 then F 2 else F 1) = v := ⟨_, rfl⟩
      have Hyb := Lib.hid hyb
      clear hyb
      go_upto_if 147 with (fail)
      go_cut [] (fun X => RD w X d A rs.length cap f (decV ok T6 T7 lim price fn fd tn td cn cd sn sd rn rd yb))
      case first =>
        by_cases hp : 0 ≤ F 2
        · have zp : decide (0 ≤ F 2) = true := decide_eq_true hp
          obtain rfl : yb = F 2 := by rw [← Hyb.out, if_pos hp]
          go_wp2_with fail
          go_meet
          exact HX.out.set 15 _
        · have zp : decide (0 ≤ F 2) = false := decide_eq_false hp
          obtain rfl : yb = F 1 := by rw [← Hyb.out, if_neg hp]
          go_wp2_with fail
          go_meet
          exact HX.out
      case rest =>
      obtain ⟨X6, hY9⟩ : ∃ Y, Y = wc := ⟨_, rfl⟩
      rw [← hY9] at hcut ⊢
      clear hY9 HX hlow hfar ld d15 f15
      have HX := Lib.hid hcut
      clear hcut
      have hlow := HX.out.low
      have hfar := HX.out.far
      have ld := HX.out.dec.lt
      have lr := HX.out.res.lt
      go_wp2_with (first
        | (refine list_load_at (o := ⟨some 150, _, _, _, _, _⟩) rfl _ _ rfl d 0 rfl (decV ok T6 T7 lim price fn fd tn td cn cd sn sd rn rd yb) _ (fun j u h => by rw [Nat.zero_add, HX.out.dec.cell]; exact h) Try.underlying37 rfl info_dec ?_)
        | (refine list_store_bk (o := ⟨none, .store 37 _ _, _, _, _, _⟩) rfl _ _ _ rfl (w.heap.size + 2) (decV ok T6 T7 lim price fn fd tn td cn cd sn sd rn rd yb) rfl rfl HX.out.res info_dec rfl one_dec ?_; intro X7 hb2 ho2))
      have hfin : dcs (runJ f rs rs.length) = decV ok T6 T7 lim price fn fd tn td cn cd sn sd rn rd yb := by
        have e1 := Hal.out
        have e2 := Hde.out
        have e3 := Hpr.out
        have e4 := Htg.out
        have e5 := Hsi.out
        rw [HSe.out]
        unfold dcs okJ byJ
        dsimp only
        rw [e1, e2, e3, e4, e5, ← Hok.out, ← HT6.out, ← HT7.out, ← Hyb.out]
      rw [hfin]
      refine bodyPost_ret (v := .agg (decV ok T6 T7 lim price fn fd tn td cn cd sn sd rn rd yb)) (results_cell_row rfl _ _ (w.heap.size + 2) 37 (decV ok T6 T7 lim price fn fd tn td cn cd sn sd rn rd yb) (0, 0) _ rfl hb2 Try.underlying37 rfl info_dec) rfl ⟨rfl, ?_⟩
      exact HX.out.low.trans (ho2.to_below (fun b hb => by omega) (by have := HX.out.low.size; omega))
end Go.Proofs.Ytmklcfmdcfbpeaa
