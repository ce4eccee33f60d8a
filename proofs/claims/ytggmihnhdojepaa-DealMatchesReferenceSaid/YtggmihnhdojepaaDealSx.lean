/- Layer 34 (deal), the reference's Split, of three weights. -/
import Derived.Test.YtggmihnhdojepaaDealSw
import Derived.Deep.DeepCutAuto
namespace Go.Proofs.Ytggmihnhdojepaa
open Go.RowKit
set_option linter.unusedVariables false
set_option linter.unusedSimpArgs false
attribute [local go_sem] ext_cell ext_frozen lt_ext ext_drew

theorem bk_drewN {w : World} {b : Nat} {C : Array Value} {t : TypeId} (h : Bk w b C t) (n : Nat) : Bk (w.drewN n) b C t := h
set_option maxRecDepth 100000 in
theorem made3b : madeCells (#[.bool false] : Array Value) (Int.toNat 3 * 1) = #[.bool false, .bool false, .bool false] := by
  first
    | rfl
    | (simp [madeCells, Array.range]; done)
    | (apply Array.ext'; simp [madeCells, Array.range]; done)
    | kernel_rfl
theorem mk3b (w : World) : (Instr.makeSlice 98 (.int .i64 3) (.int .i64 3)).run Try.prog w = .ok (.slice (some ⟨w.heap.size, 0, none⟩) 3 3) (w.alloc (.cells #[.bool false, .bool false, .bool false] 4)) := by
  obtain ⟨i, z, i1, i2, i3, i4, i5⟩ := info_of (P := Try.prog) (e := 4) (size := 1) (bytes := 1) (c := 1) (by kernel_rfl)
  have hz : z.cells = #[.bool false] := by
    have h : ((Try.prog.info? 4).bind (·.zero)).map (·.cells) = some #[.bool false] := by kernel_rfl
    rw [i1] at h
    simp only [Option.bind_some] at h
    rw [i2] at h
    simpa using h
  rw [run_makeSlice w 98 4 i z Try.underlying98 i1 i2 .i64 .i64 3 3 (by omega) (by omega) (by rw [i3]; decide) (by rw [i4]; decide) (by omega), hz, i3, made3b]
  rfl
set_option maxRecDepth 100000 in
set_option maxHeartbeats 60000000 in
theorem rsplit_any (n a b c : Int) (wb : Nat) (w : World) (hb : Bk w wb #[.int .i64 a, .int .i64 b, .int .i64 c] 3) (hn : goodW n) (ha : goodW a) (hb2 : goodW b) (hc : goodW c) (h0 : 0 < a + b + c) (h1 : a + b + c ≤ 1000000000) :
    Calls Try.prog 44 #[.int .i64 n, .slice (some ⟨wb, 0, none⟩) 3 3] w (Splitted w n a b c) := by
  have VN := Lib.hid (good_valid hn)
  have HW := Lib.hid (rweights_any wb a b c w hb ha hb2 hc h0)
  have HG := Lib.hid (And.intro hn (And.intro ha (And.intro hb2 (And.intro hc hb))))
  have hn0 : ¬ n < 0 := by have := hn.1; omega
  obtain ⟨n1, n2⟩ := hn
  obtain ⟨a1, a2⟩ := ha
  obtain ⟨b1, b2⟩ := hb2
  obtain ⟨c1, c2⟩ := hc
  clear hb
  obtain ⟨al, hal⟩ : ∃ s, a + b + c = s := ⟨_, rfl⟩
  obtain ⟨X1, hX1⟩ : ∃ x, n * a = x := ⟨_, rfl⟩
  obtain ⟨X2, hX2⟩ : ∃ x, n * b = x := ⟨_, rfl⟩
  obtain ⟨X3, hX3⟩ : ∃ x, n * c = x := ⟨_, rfl⟩
  have px1 := prod_bd HG.out.1 HG.out.2.1
  have px2 := prod_bd HG.out.1 HG.out.2.2.1
  have px3 := prod_bd HG.out.1 HG.out.2.2.2.1
  rw [hX1] at px1
  rw [hX2] at px2
  rw [hX3] at px3
  obtain ⟨px1, px1'⟩ := px1
  obtain ⟨px2, px2'⟩ := px2
  obtain ⟨px3, px3'⟩ := px3
  rw [hal] at h0 h1
  have hmk := mk3
  go_enter Try.func44, Try.ntmps44
  go_upto_region 10 with (first
    | (go_at_call 53; refine (rvalid_is true _ _ VN).mono ?_; rintro e w' ⟨rfl, rfl⟩)
    | (go_at_call 60; refine HW.out.mono ?_; rintro e w' ⟨rfl, q, rfl⟩))
  refine forget (fun X => Below w.heap.size w X) (below_drewN (Below.refl _ _) _) ?_
  rintro X hw
  have bX := HG.out.2.2.2.2.below hw
  have x0 : X.cell? ⟨wb, 0, none⟩ = some (.int .i64 a) := bX.cell 0
  have x1 : X.cell? ⟨wb, 1, none⟩ = some (.int .i64 b) := bX.cell 1
  have x2 : X.cell? ⟨wb, 2, none⟩ = some (.int .i64 c) := bX.cell 2
  have lx := bX.lt
  have hbX := hw.size
  have HX := Lib.hid (And.intro hw bX)
  clear hw bX HW VN
  go_wp2_with fail
  refine wp_loop_rounds 4 ?_
  rw [rounds_succ]
  go_wp2_with fail
  rw [rounds_succ]
  go_wp2_with fail
  rw [rounds_succ]
  go_wp2_with fail
  rw [rounds_succ]
  obtain ⟨Q1, hQ1⟩ : ∃ q, X1 / al = q := ⟨_, rfl⟩
  obtain ⟨Q2, hQ2⟩ : ∃ q, X2 / al = q := ⟨_, rfl⟩
  obtain ⟨Q3, hQ3⟩ : ∃ q, X3 / al = q := ⟨_, rfl⟩
  have q1 : 0 ≤ Q1 ∧ Q1 ≤ n := hQ1 ▸ quo_bd hX1 (by omega) (by omega) (by omega) h0
  have q2 : 0 ≤ Q2 ∧ Q2 ≤ n := hQ2 ▸ quo_bd hX2 (by omega) (by omega) (by omega) h0
  have q3 : 0 ≤ Q3 ∧ Q3 ≤ n := hQ3 ▸ quo_bd hX3 (by omega) (by omega) (by omega) h0
  obtain ⟨q1, q1'⟩ := q1
  obtain ⟨q2, q2'⟩ := q2
  obtain ⟨q3, q3'⟩ := q3
  go_wp2_with fail
  refine wp_loop_rounds 4 ?_
  rw [rounds_succ]
  refine forget (fun Z => Below w.heap.size w Z ∧ Bk Z wb #[.int .i64 a, .int .i64 b, .int .i64 c] 3 ∧ Bk Z X.heap.size #[.int .i64 0, .int .i64 0, .int .i64 0] 3) ⟨?_, ?_, ?_⟩ ?_
  · exact Below.alloc0 HX.out.1 _
  · exact HX.out.2.alloc _
  · exact Bk.new _ _ _
  rintro Z0 ⟨hz, bw, bo⟩
  have y0 : Z0.cell? ⟨wb, 0, none⟩ = some (.int .i64 a) := bw.cell 0
  have y1 : Z0.cell? ⟨wb, 1, none⟩ = some (.int .i64 b) := bw.cell 1
  have y2 : Z0.cell? ⟨wb, 2, none⟩ = some (.int .i64 c) := bw.cell 2
  have z := bo.cell
  have ly := bw.lt
  have lz := bo.lt
  have fz := bo.free
  have HZ0 := Lib.hid (And.intro hz (And.intro bw bo))
  clear hz bw bo x0 x1 x2
  go_wp2_with fail
  rw [rounds_succ]
  refine forget (fun Z => Below w.heap.size w Z ∧ Bk Z wb #[.int .i64 a, .int .i64 b, .int .i64 c] 3 ∧ Bk Z X.heap.size #[.int .i64 Q1, .int .i64 0, .int .i64 0] 3) ⟨?_, ?_, ?_⟩ ?_
  · exact HZ0.out.1.setCell (hp := hbX) _
  · exact HZ0.out.2.1.far (by show wb ≠ X.heap.size; omega) _
  · exact HZ0.out.2.2.set_ 0 _
  clear HZ0 y0 y1 y2 z ly lz fz
  rintro Z1 ⟨hz, bw, bo⟩
  have y0 : Z1.cell? ⟨wb, 0, none⟩ = some (.int .i64 a) := bw.cell 0
  have y1 : Z1.cell? ⟨wb, 1, none⟩ = some (.int .i64 b) := bw.cell 1
  have y2 : Z1.cell? ⟨wb, 2, none⟩ = some (.int .i64 c) := bw.cell 2
  have z := bo.cell
  have ly := bw.lt
  have lz := bo.lt
  have fz := bo.free
  have HZ1 := Lib.hid (And.intro hz (And.intro bw bo))
  clear hz bw bo
  go_wp2_with fail
  rw [rounds_succ]
  refine forget (fun Z => Below w.heap.size w Z ∧ Bk Z wb #[.int .i64 a, .int .i64 b, .int .i64 c] 3 ∧ Bk Z X.heap.size #[.int .i64 Q1, .int .i64 Q2, .int .i64 0] 3) ⟨?_, ?_, ?_⟩ ?_
  · exact HZ1.out.1.setCell (hp := hbX) _
  · exact HZ1.out.2.1.far (by show wb ≠ X.heap.size; omega) _
  · exact HZ1.out.2.2.set_ 1 _
  clear HZ1 y0 y1 y2 z ly lz fz
  rintro Z2 ⟨hz, bw, bo⟩
  have y0 : Z2.cell? ⟨wb, 0, none⟩ = some (.int .i64 a) := bw.cell 0
  have y1 : Z2.cell? ⟨wb, 1, none⟩ = some (.int .i64 b) := bw.cell 1
  have y2 : Z2.cell? ⟨wb, 2, none⟩ = some (.int .i64 c) := bw.cell 2
  have z := bo.cell
  have ly := bw.lt
  have lz := bo.lt
  have fz := bo.free
  have HZ2 := Lib.hid (And.intro hz (And.intro bw bo))
  clear hz bw bo
  go_wp2_with fail
  rw [rounds_succ]
  refine forget (fun Z => Below w.heap.size w Z ∧ Bk Z wb #[.int .i64 a, .int .i64 b, .int .i64 c] 3 ∧ Bk Z X.heap.size #[.int .i64 Q1, .int .i64 Q2, .int .i64 Q3] 3) ⟨?_, ?_, ?_⟩ ?_
  · exact HZ2.out.1.setCell (hp := hbX) _
  · exact HZ2.out.2.1.far (by show wb ≠ X.heap.size; omega) _
  · exact HZ2.out.2.2.set_ 2 _
  clear HZ2 y0 y1 y2 z ly lz fz
  rintro Z3 ⟨hz, bw, bo⟩
  have y0 : Z3.cell? ⟨wb, 0, none⟩ = some (.int .i64 a) := bw.cell 0
  have y1 : Z3.cell? ⟨wb, 1, none⟩ = some (.int .i64 b) := bw.cell 1
  have y2 : Z3.cell? ⟨wb, 2, none⟩ = some (.int .i64 c) := bw.cell 2
  have z := bo.cell
  have ly := bw.lt
  have lz := bo.lt
  have fz := bo.free
  have HZ3 := Lib.hid (And.intro hz (And.intro bw bo))
  clear hz bw bo
  have hmb := mk3b
  obtain ⟨l, hl⟩ : ∃ l, n - Q1 - Q2 - Q3 = l := ⟨_, rfl⟩
  have hl0 : l = leftP n a b c := by
    unfold leftP
    rw [hal, hX1, hX2, hX3, hQ1, hQ2, hQ3, ← hl]
    omega
  have hlb := left_bd n a b c (by omega)
  rw [← hl0] at hlb
  go_upto_region 23 with (fail)
  refine forget (fun V => Below w.heap.size w V ∧ Bk V wb #[.int .i64 a, .int .i64 b, .int .i64 c] 3 ∧ Bk V X.heap.size #[.int .i64 Q1, .int .i64 Q2, .int .i64 Q3] 3 ∧ Bk V Z3.heap.size #[.bool false, .bool false, .bool false] 4) ⟨Below.alloc0 HZ3.out.1 _, HZ3.out.2.1.alloc _, HZ3.out.2.2.alloc _, Bk.new _ _ _⟩ ?_
  have hwb : wb < X.heap.size := by have := HG.out.2.2.2.2.lt; omega
  have hod : X.heap.size < Z3.heap.size := lz
  obtain ⟨ob, hob⟩ : ∃ x, X.heap.size = x := ⟨_, rfl⟩
  obtain ⟨db, hdb⟩ : ∃ x, Z3.heap.size = x := ⟨_, rfl⟩
  rw [hob] at hwb hod hbX ⊢
  rw [hdb] at hod ⊢
  rw [hl]
  clear HZ3 y0 y1 y2 z ly lz fz lx hmk hmb hob hdb hl
  rintro V ⟨hv, bw, bo, bd⟩
  have HV := Lib.hid (And.intro hv (And.intro bw (And.intro bo bd)))
  have x0 : V.cell? ⟨wb, 0, none⟩ = some (.int .i64 a) := bw.cell 0
  have x1 : V.cell? ⟨wb, 1, none⟩ = some (.int .i64 b) := bw.cell 1
  have x2 : V.cell? ⟨wb, 2, none⟩ = some (.int .i64 c) := bw.cell 2
  have z := bo.cell
  have zf := bo.free
  have e := bd.cell
  have ef := bd.free
  have l1 := bw.lt
  have l2 := bo.lt
  have l3 := bd.lt
  obtain ⟨R1, hR1⟩ : ∃ q, X1 % al = q := ⟨_, rfl⟩
  obtain ⟨R2, hR2⟩ : ∃ q, X2 % al = q := ⟨_, rfl⟩
  obtain ⟨R3, hR3⟩ : ∃ q, X3 % al = q := ⟨_, rfl⟩
  have HO : Hid (ordP n a b c = ord3 R1 R2 R3) := Lib.hid (by unfold ordP; rw [hal, hX1, hX2, hX3, hR1, hR2, hR3])
  have HS : Hid (splitP n a b c = (Q1 + incN (ord3 R1 R2 R3) l 0, Q2 + incN (ord3 R1 R2 R3) l 1, Q3 + incN (ord3 R1 R2 R3) l 2)) := Lib.hid (by unfold splitP; rw [HO.out, ← hl0, hal, hX1, hX2, hX3, hQ1, hQ2, hQ3])
  have hwo : ¬ wb = ob := by omega
  have hwd : ¬ wb = db := by omega
  have hob2 : ¬ ob = db := by omega
  have hob3 : ¬ db = ob := by omega
  clear hv bw bo bd hl0 HX HG
  have hl3 : l = 0 ∨ l = 1 ∨ l = 2 := by omega
  clear hlb
  rcases hl3 with rfl | rfl | rfl
  · as_aux_lemma =>
    refine wp_loop_rounds 1 ?_
    rw [rounds_succ]
    go_wp2_with fail
    refine bodyPost_ret (v := .tuple #[.slice (some ⟨ob, 0, none⟩) 3 3, .int .i64 0]) (by simp [results, Try.results44, go_sem]) rfl ?_
    refine ⟨ob, rfl, ?_, HV.out.1⟩
    rw [HS.out]
    have i0 : ∀ o i, incN o 0 i = 0 := fun o i => by unfold incN; rw [if_neg (by omega)]
    simp only [i0, Int.add_zero]
    exact HV.out.2.2.1
  · by_cases k1 : R1 < R2
    · by_cases k2 : R2 < R3
      · have k3 : R1 < R3 := by omega
        have g12 : decide (R1 < R2) = true := decide_eq_true k1
        have g23 : decide (R2 < R3) = true := decide_eq_true k2
        have g13 : decide (R1 < R3) = true := decide_eq_true k3
        have ho : ord3 R1 R2 R3 = (2, 1, 0) := by unfold ord3; simp [k1, k2, k3]
        have hsp : Hid (splitP n a b c = (Q1, Q2, Q3 + 1)) := Lib.hid (by rw [HS.out, ho]; simp [incN])
        clear HS HO ho
        as_aux_lemma =>
        refine wp_loop_rounds 2 ?_
        rw [rounds_succ]
        go_wp2_with fail
        refine wp_loop_rounds 4 ?_
        rw [rounds_succ]
        go_wp2_with fail
        go_quiet (fail)
        go_wp2_with fail
        rw [rounds_succ]
        go_wp2_with fail
        go_quiet (fail)
        go_wp2_with fail
        rw [rounds_succ]
        go_wp2_with fail
        go_quiet (fail)
        go_wp2_with fail
        rw [rounds_succ]
        go_wp2_with fail
        rw [rounds_succ]
        go_wp2_with fail
        refine bodyPost_ret (v := .tuple #[.slice (some ⟨ob, 0, none⟩) 3 3, .int .i64 0]) (by simp [results, Try.results44, go_sem]) rfl ?_
        refine ⟨ob, rfl, ?_, ?_⟩
        · rw [hsp.out]
          exact set_eq2 ((bk_drewN HV.out.2.2.1 _).far (by show ob ≠ db; omega) _) rfl
        · have hw := HV.out.1
          (repeat (first | with_reducible exact Below.refl _ _ | with_reducible assumption | with_reducible refine Below.alloc0 ?_ _ | with_reducible refine Below.ext0 ?_ _ | with_reducible refine Below.drew ?_ | with_reducible refine below_drewN ?_ _ | (with_reducible refine Below.setCell (hp := ?hp) ?_ _; case hp => (first | (simp; done) | (simp; omega)))))
      · by_cases k3 : R1 < R3
        · have g12 : decide (R1 < R2) = true := decide_eq_true k1
          have g23 : decide (R2 < R3) = false := decide_eq_false k2
          have g13 : decide (R1 < R3) = true := decide_eq_true k3
          have ho : ord3 R1 R2 R3 = (1, 2, 0) := by unfold ord3; simp [k1, k2, k3]
          have hsp : Hid (splitP n a b c = (Q1, Q2 + 1, Q3)) := Lib.hid (by rw [HS.out, ho]; simp [incN])
          clear HS HO ho
          as_aux_lemma =>
          refine wp_loop_rounds 2 ?_
          rw [rounds_succ]
          go_wp2_with fail
          refine wp_loop_rounds 4 ?_
          rw [rounds_succ]
          go_wp2_with fail
          go_quiet (fail)
          go_wp2_with fail
          rw [rounds_succ]
          go_wp2_with fail
          go_quiet (fail)
          go_wp2_with fail
          rw [rounds_succ]
          go_wp2_with fail
          go_quiet (fail)
          go_wp2_with fail
          rw [rounds_succ]
          go_wp2_with fail
          rw [rounds_succ]
          go_wp2_with fail
          refine bodyPost_ret (v := .tuple #[.slice (some ⟨ob, 0, none⟩) 3 3, .int .i64 0]) (by simp [results, Try.results44, go_sem]) rfl ?_
          refine ⟨ob, rfl, ?_, ?_⟩
          · rw [hsp.out]
            exact set_eq2 ((bk_drewN HV.out.2.2.1 _).far (by show ob ≠ db; omega) _) rfl
          · have hw := HV.out.1
            (repeat (first | with_reducible exact Below.refl _ _ | with_reducible assumption | with_reducible refine Below.alloc0 ?_ _ | with_reducible refine Below.ext0 ?_ _ | with_reducible refine Below.drew ?_ | with_reducible refine below_drewN ?_ _ | (with_reducible refine Below.setCell (hp := ?hp) ?_ _; case hp => (first | (simp; done) | (simp; omega)))))
        · have g12 : decide (R1 < R2) = true := decide_eq_true k1
          have g23 : decide (R2 < R3) = false := decide_eq_false k2
          have g13 : decide (R1 < R3) = false := decide_eq_false k3
          have ho : ord3 R1 R2 R3 = (1, 0, 2) := by unfold ord3; simp [k1, k2, k3]
          have hsp : Hid (splitP n a b c = (Q1, Q2 + 1, Q3)) := Lib.hid (by rw [HS.out, ho]; simp [incN])
          clear HS HO ho
          as_aux_lemma =>
          refine wp_loop_rounds 2 ?_
          rw [rounds_succ]
          go_wp2_with fail
          refine wp_loop_rounds 4 ?_
          rw [rounds_succ]
          go_wp2_with fail
          go_quiet (fail)
          go_wp2_with fail
          rw [rounds_succ]
          go_wp2_with fail
          go_quiet (fail)
          go_wp2_with fail
          rw [rounds_succ]
          go_wp2_with fail
          go_quiet (fail)
          go_wp2_with fail
          rw [rounds_succ]
          go_wp2_with fail
          rw [rounds_succ]
          go_wp2_with fail
          refine bodyPost_ret (v := .tuple #[.slice (some ⟨ob, 0, none⟩) 3 3, .int .i64 0]) (by simp [results, Try.results44, go_sem]) rfl ?_
          refine ⟨ob, rfl, ?_, ?_⟩
          · rw [hsp.out]
            exact set_eq2 ((bk_drewN HV.out.2.2.1 _).far (by show ob ≠ db; omega) _) rfl
          · have hw := HV.out.1
            (repeat (first | with_reducible exact Below.refl _ _ | with_reducible assumption | with_reducible refine Below.alloc0 ?_ _ | with_reducible refine Below.ext0 ?_ _ | with_reducible refine Below.drew ?_ | with_reducible refine below_drewN ?_ _ | (with_reducible refine Below.setCell (hp := ?hp) ?_ _; case hp => (first | (simp; done) | (simp; omega)))))
    · by_cases k2 : R2 < R3
      · by_cases k3 : R1 < R3
        · have g12 : decide (R1 < R2) = false := decide_eq_false k1
          have g23 : decide (R2 < R3) = true := decide_eq_true k2
          have g13 : decide (R1 < R3) = true := decide_eq_true k3
          have ho : ord3 R1 R2 R3 = (2, 0, 1) := by unfold ord3; simp [k1, k2, k3]
          have hsp : Hid (splitP n a b c = (Q1, Q2, Q3 + 1)) := Lib.hid (by rw [HS.out, ho]; simp [incN])
          clear HS HO ho
          as_aux_lemma =>
          refine wp_loop_rounds 2 ?_
          rw [rounds_succ]
          go_wp2_with fail
          refine wp_loop_rounds 4 ?_
          rw [rounds_succ]
          go_wp2_with fail
          go_quiet (fail)
          go_wp2_with fail
          rw [rounds_succ]
          go_wp2_with fail
          go_quiet (fail)
          go_wp2_with fail
          rw [rounds_succ]
          go_wp2_with fail
          go_quiet (fail)
          go_wp2_with fail
          rw [rounds_succ]
          go_wp2_with fail
          rw [rounds_succ]
          go_wp2_with fail
          refine bodyPost_ret (v := .tuple #[.slice (some ⟨ob, 0, none⟩) 3 3, .int .i64 0]) (by simp [results, Try.results44, go_sem]) rfl ?_
          refine ⟨ob, rfl, ?_, ?_⟩
          · rw [hsp.out]
            exact set_eq2 ((bk_drewN HV.out.2.2.1 _).far (by show ob ≠ db; omega) _) rfl
          · have hw := HV.out.1
            (repeat (first | with_reducible exact Below.refl _ _ | with_reducible assumption | with_reducible refine Below.alloc0 ?_ _ | with_reducible refine Below.ext0 ?_ _ | with_reducible refine Below.drew ?_ | with_reducible refine below_drewN ?_ _ | (with_reducible refine Below.setCell (hp := ?hp) ?_ _; case hp => (first | (simp; done) | (simp; omega)))))
        · have g12 : decide (R1 < R2) = false := decide_eq_false k1
          have g23 : decide (R2 < R3) = true := decide_eq_true k2
          have g13 : decide (R1 < R3) = false := decide_eq_false k3
          have ho : ord3 R1 R2 R3 = (0, 2, 1) := by unfold ord3; simp [k1, k2, k3]
          have hsp : Hid (splitP n a b c = (Q1 + 1, Q2, Q3)) := Lib.hid (by rw [HS.out, ho]; simp [incN])
          clear HS HO ho
          as_aux_lemma =>
          refine wp_loop_rounds 2 ?_
          rw [rounds_succ]
          go_wp2_with fail
          refine wp_loop_rounds 4 ?_
          rw [rounds_succ]
          go_wp2_with fail
          go_quiet (fail)
          go_wp2_with fail
          rw [rounds_succ]
          go_wp2_with fail
          go_quiet (fail)
          go_wp2_with fail
          rw [rounds_succ]
          go_wp2_with fail
          go_quiet (fail)
          go_wp2_with fail
          rw [rounds_succ]
          go_wp2_with fail
          rw [rounds_succ]
          go_wp2_with fail
          refine bodyPost_ret (v := .tuple #[.slice (some ⟨ob, 0, none⟩) 3 3, .int .i64 0]) (by simp [results, Try.results44, go_sem]) rfl ?_
          refine ⟨ob, rfl, ?_, ?_⟩
          · rw [hsp.out]
            exact set_eq2 ((bk_drewN HV.out.2.2.1 _).far (by show ob ≠ db; omega) _) rfl
          · have hw := HV.out.1
            (repeat (first | with_reducible exact Below.refl _ _ | with_reducible assumption | with_reducible refine Below.alloc0 ?_ _ | with_reducible refine Below.ext0 ?_ _ | with_reducible refine Below.drew ?_ | with_reducible refine below_drewN ?_ _ | (with_reducible refine Below.setCell (hp := ?hp) ?_ _; case hp => (first | (simp; done) | (simp; omega)))))
      · have k3 : ¬ R1 < R3 := by omega
        have g12 : decide (R1 < R2) = false := decide_eq_false k1
        have g23 : decide (R2 < R3) = false := decide_eq_false k2
        have g13 : decide (R1 < R3) = false := decide_eq_false k3
        have ho : ord3 R1 R2 R3 = (0, 1, 2) := by unfold ord3; simp [k1, k2, k3]
        have hsp : Hid (splitP n a b c = (Q1 + 1, Q2, Q3)) := Lib.hid (by rw [HS.out, ho]; simp [incN])
        clear HS HO ho
        as_aux_lemma =>
        refine wp_loop_rounds 2 ?_
        rw [rounds_succ]
        go_wp2_with fail
        refine wp_loop_rounds 4 ?_
        rw [rounds_succ]
        go_wp2_with fail
        go_quiet (fail)
        go_wp2_with fail
        rw [rounds_succ]
        go_wp2_with fail
        go_quiet (fail)
        go_wp2_with fail
        rw [rounds_succ]
        go_wp2_with fail
        go_quiet (fail)
        go_wp2_with fail
        rw [rounds_succ]
        go_wp2_with fail
        rw [rounds_succ]
        go_wp2_with fail
        refine bodyPost_ret (v := .tuple #[.slice (some ⟨ob, 0, none⟩) 3 3, .int .i64 0]) (by simp [results, Try.results44, go_sem]) rfl ?_
        refine ⟨ob, rfl, ?_, ?_⟩
        · rw [hsp.out]
          exact set_eq2 ((bk_drewN HV.out.2.2.1 _).far (by show ob ≠ db; omega) _) rfl
        · have hw := HV.out.1
          (repeat (first | with_reducible exact Below.refl _ _ | with_reducible assumption | with_reducible refine Below.alloc0 ?_ _ | with_reducible refine Below.ext0 ?_ _ | with_reducible refine Below.drew ?_ | with_reducible refine below_drewN ?_ _ | (with_reducible refine Below.setCell (hp := ?hp) ?_ _; case hp => (first | (simp; done) | (simp; omega)))))
  · by_cases k1 : R1 < R2
    · by_cases k2 : R2 < R3
      · have k3 : R1 < R3 := by omega
        have g12 : decide (R1 < R2) = true := decide_eq_true k1
        have g23 : decide (R2 < R3) = true := decide_eq_true k2
        have g13 : decide (R1 < R3) = true := decide_eq_true k3
        have ho : ord3 R1 R2 R3 = (2, 1, 0) := by unfold ord3; simp [k1, k2, k3]
        have hsp : Hid (splitP n a b c = (Q1, Q2 + 1, Q3 + 1)) := Lib.hid (by rw [HS.out, ho]; simp [incN])
        clear HS HO ho
        as_aux_lemma =>
        refine wp_loop_rounds 3 ?_
        rw [rounds_succ]
        go_wp2_with fail
        refine wp_loop_rounds 4 ?_
        rw [rounds_succ]
        go_wp2_with fail
        go_quiet (fail)
        go_wp2_with fail
        rw [rounds_succ]
        go_wp2_with fail
        go_quiet (fail)
        go_wp2_with fail
        rw [rounds_succ]
        go_wp2_with fail
        go_quiet (fail)
        go_wp2_with fail
        rw [rounds_succ]
        go_wp2_with fail
        rw [rounds_succ]
        go_wp2_with fail
        refine wp_loop_rounds 4 ?_
        rw [rounds_succ]
        go_wp2_with fail
        go_quiet (fail)
        go_wp2_with fail
        rw [rounds_succ]
        go_wp2_with fail
        go_quiet (fail)
        go_wp2_with fail
        rw [rounds_succ]
        go_wp2_with fail
        go_quiet (fail)
        go_wp2_with fail
        rw [rounds_succ]
        go_wp2_with fail
        rw [rounds_succ]
        go_wp2_with fail
        refine bodyPost_ret (v := .tuple #[.slice (some ⟨ob, 0, none⟩) 3 3, .int .i64 0]) (by simp [results, Try.results44, go_sem]) rfl ?_
        refine ⟨ob, rfl, ?_, ?_⟩
        · rw [hsp.out]
          exact set_eq2 ((bk_drewN (((bk_drewN HV.out.2.2.1 _).far (by show ob ≠ db; omega) _).set_ 2 _) _).far (by show ob ≠ db; omega) _) rfl
        · have hw := HV.out.1
          (repeat (first | with_reducible exact Below.refl _ _ | with_reducible assumption | with_reducible refine Below.alloc0 ?_ _ | with_reducible refine Below.ext0 ?_ _ | with_reducible refine Below.drew ?_ | with_reducible refine below_drewN ?_ _ | (with_reducible refine Below.setCell (hp := ?hp) ?_ _; case hp => (first | (simp; done) | (simp; omega)))))
      · by_cases k3 : R1 < R3
        · have g12 : decide (R1 < R2) = true := decide_eq_true k1
          have g23 : decide (R2 < R3) = false := decide_eq_false k2
          have g13 : decide (R1 < R3) = true := decide_eq_true k3
          have ho : ord3 R1 R2 R3 = (1, 2, 0) := by unfold ord3; simp [k1, k2, k3]
          have hsp : Hid (splitP n a b c = (Q1, Q2 + 1, Q3 + 1)) := Lib.hid (by rw [HS.out, ho]; simp [incN])
          clear HS HO ho
          as_aux_lemma =>
          refine wp_loop_rounds 3 ?_
          rw [rounds_succ]
          go_wp2_with fail
          refine wp_loop_rounds 4 ?_
          rw [rounds_succ]
          go_wp2_with fail
          go_quiet (fail)
          go_wp2_with fail
          rw [rounds_succ]
          go_wp2_with fail
          go_quiet (fail)
          go_wp2_with fail
          rw [rounds_succ]
          go_wp2_with fail
          go_quiet (fail)
          go_wp2_with fail
          rw [rounds_succ]
          go_wp2_with fail
          rw [rounds_succ]
          go_wp2_with fail
          refine wp_loop_rounds 4 ?_
          rw [rounds_succ]
          go_wp2_with fail
          go_quiet (fail)
          go_wp2_with fail
          rw [rounds_succ]
          go_wp2_with fail
          go_quiet (fail)
          go_wp2_with fail
          rw [rounds_succ]
          go_wp2_with fail
          go_quiet (fail)
          go_wp2_with fail
          rw [rounds_succ]
          go_wp2_with fail
          rw [rounds_succ]
          go_wp2_with fail
          refine bodyPost_ret (v := .tuple #[.slice (some ⟨ob, 0, none⟩) 3 3, .int .i64 0]) (by simp [results, Try.results44, go_sem]) rfl ?_
          refine ⟨ob, rfl, ?_, ?_⟩
          · rw [hsp.out]
            exact set_eq2 ((bk_drewN (((bk_drewN HV.out.2.2.1 _).far (by show ob ≠ db; omega) _).set_ 1 _) _).far (by show ob ≠ db; omega) _) rfl
          · have hw := HV.out.1
            (repeat (first | with_reducible exact Below.refl _ _ | with_reducible assumption | with_reducible refine Below.alloc0 ?_ _ | with_reducible refine Below.ext0 ?_ _ | with_reducible refine Below.drew ?_ | with_reducible refine below_drewN ?_ _ | (with_reducible refine Below.setCell (hp := ?hp) ?_ _; case hp => (first | (simp; done) | (simp; omega)))))
        · have g12 : decide (R1 < R2) = true := decide_eq_true k1
          have g23 : decide (R2 < R3) = false := decide_eq_false k2
          have g13 : decide (R1 < R3) = false := decide_eq_false k3
          have ho : ord3 R1 R2 R3 = (1, 0, 2) := by unfold ord3; simp [k1, k2, k3]
          have hsp : Hid (splitP n a b c = (Q1 + 1, Q2 + 1, Q3)) := Lib.hid (by rw [HS.out, ho]; simp [incN])
          clear HS HO ho
          as_aux_lemma =>
          refine wp_loop_rounds 3 ?_
          rw [rounds_succ]
          go_wp2_with fail
          refine wp_loop_rounds 4 ?_
          rw [rounds_succ]
          go_wp2_with fail
          go_quiet (fail)
          go_wp2_with fail
          rw [rounds_succ]
          go_wp2_with fail
          go_quiet (fail)
          go_wp2_with fail
          rw [rounds_succ]
          go_wp2_with fail
          go_quiet (fail)
          go_wp2_with fail
          rw [rounds_succ]
          go_wp2_with fail
          rw [rounds_succ]
          go_wp2_with fail
          refine wp_loop_rounds 4 ?_
          rw [rounds_succ]
          go_wp2_with fail
          go_quiet (fail)
          go_wp2_with fail
          rw [rounds_succ]
          go_wp2_with fail
          go_quiet (fail)
          go_wp2_with fail
          rw [rounds_succ]
          go_wp2_with fail
          go_quiet (fail)
          go_wp2_with fail
          rw [rounds_succ]
          go_wp2_with fail
          rw [rounds_succ]
          go_wp2_with fail
          refine bodyPost_ret (v := .tuple #[.slice (some ⟨ob, 0, none⟩) 3 3, .int .i64 0]) (by simp [results, Try.results44, go_sem]) rfl ?_
          refine ⟨ob, rfl, ?_, ?_⟩
          · rw [hsp.out]
            exact set_eq2 ((bk_drewN (((bk_drewN HV.out.2.2.1 _).far (by show ob ≠ db; omega) _).set_ 1 _) _).far (by show ob ≠ db; omega) _) rfl
          · have hw := HV.out.1
            (repeat (first | with_reducible exact Below.refl _ _ | with_reducible assumption | with_reducible refine Below.alloc0 ?_ _ | with_reducible refine Below.ext0 ?_ _ | with_reducible refine Below.drew ?_ | with_reducible refine below_drewN ?_ _ | (with_reducible refine Below.setCell (hp := ?hp) ?_ _; case hp => (first | (simp; done) | (simp; omega)))))
    · by_cases k2 : R2 < R3
      · by_cases k3 : R1 < R3
        · have g12 : decide (R1 < R2) = false := decide_eq_false k1
          have g23 : decide (R2 < R3) = true := decide_eq_true k2
          have g13 : decide (R1 < R3) = true := decide_eq_true k3
          have ho : ord3 R1 R2 R3 = (2, 0, 1) := by unfold ord3; simp [k1, k2, k3]
          have hsp : Hid (splitP n a b c = (Q1 + 1, Q2, Q3 + 1)) := Lib.hid (by rw [HS.out, ho]; simp [incN])
          clear HS HO ho
          as_aux_lemma =>
          refine wp_loop_rounds 3 ?_
          rw [rounds_succ]
          go_wp2_with fail
          refine wp_loop_rounds 4 ?_
          rw [rounds_succ]
          go_wp2_with fail
          go_quiet (fail)
          go_wp2_with fail
          rw [rounds_succ]
          go_wp2_with fail
          go_quiet (fail)
          go_wp2_with fail
          rw [rounds_succ]
          go_wp2_with fail
          go_quiet (fail)
          go_wp2_with fail
          rw [rounds_succ]
          go_wp2_with fail
          rw [rounds_succ]
          go_wp2_with fail
          refine wp_loop_rounds 4 ?_
          rw [rounds_succ]
          go_wp2_with fail
          go_quiet (fail)
          go_wp2_with fail
          rw [rounds_succ]
          go_wp2_with fail
          go_quiet (fail)
          go_wp2_with fail
          rw [rounds_succ]
          go_wp2_with fail
          go_quiet (fail)
          go_wp2_with fail
          rw [rounds_succ]
          go_wp2_with fail
          rw [rounds_succ]
          go_wp2_with fail
          refine bodyPost_ret (v := .tuple #[.slice (some ⟨ob, 0, none⟩) 3 3, .int .i64 0]) (by simp [results, Try.results44, go_sem]) rfl ?_
          refine ⟨ob, rfl, ?_, ?_⟩
          · rw [hsp.out]
            exact set_eq2 ((bk_drewN (((bk_drewN HV.out.2.2.1 _).far (by show ob ≠ db; omega) _).set_ 2 _) _).far (by show ob ≠ db; omega) _) rfl
          · have hw := HV.out.1
            (repeat (first | with_reducible exact Below.refl _ _ | with_reducible assumption | with_reducible refine Below.alloc0 ?_ _ | with_reducible refine Below.ext0 ?_ _ | with_reducible refine Below.drew ?_ | with_reducible refine below_drewN ?_ _ | (with_reducible refine Below.setCell (hp := ?hp) ?_ _; case hp => (first | (simp; done) | (simp; omega)))))
        · have g12 : decide (R1 < R2) = false := decide_eq_false k1
          have g23 : decide (R2 < R3) = true := decide_eq_true k2
          have g13 : decide (R1 < R3) = false := decide_eq_false k3
          have ho : ord3 R1 R2 R3 = (0, 2, 1) := by unfold ord3; simp [k1, k2, k3]
          have hsp : Hid (splitP n a b c = (Q1 + 1, Q2, Q3 + 1)) := Lib.hid (by rw [HS.out, ho]; simp [incN])
          clear HS HO ho
          as_aux_lemma =>
          refine wp_loop_rounds 3 ?_
          rw [rounds_succ]
          go_wp2_with fail
          refine wp_loop_rounds 4 ?_
          rw [rounds_succ]
          go_wp2_with fail
          go_quiet (fail)
          go_wp2_with fail
          rw [rounds_succ]
          go_wp2_with fail
          go_quiet (fail)
          go_wp2_with fail
          rw [rounds_succ]
          go_wp2_with fail
          go_quiet (fail)
          go_wp2_with fail
          rw [rounds_succ]
          go_wp2_with fail
          rw [rounds_succ]
          go_wp2_with fail
          refine wp_loop_rounds 4 ?_
          rw [rounds_succ]
          go_wp2_with fail
          go_quiet (fail)
          go_wp2_with fail
          rw [rounds_succ]
          go_wp2_with fail
          go_quiet (fail)
          go_wp2_with fail
          rw [rounds_succ]
          go_wp2_with fail
          go_quiet (fail)
          go_wp2_with fail
          rw [rounds_succ]
          go_wp2_with fail
          rw [rounds_succ]
          go_wp2_with fail
          refine bodyPost_ret (v := .tuple #[.slice (some ⟨ob, 0, none⟩) 3 3, .int .i64 0]) (by simp [results, Try.results44, go_sem]) rfl ?_
          refine ⟨ob, rfl, ?_, ?_⟩
          · rw [hsp.out]
            exact set_eq2 ((bk_drewN (((bk_drewN HV.out.2.2.1 _).far (by show ob ≠ db; omega) _).set_ 0 _) _).far (by show ob ≠ db; omega) _) rfl
          · have hw := HV.out.1
            (repeat (first | with_reducible exact Below.refl _ _ | with_reducible assumption | with_reducible refine Below.alloc0 ?_ _ | with_reducible refine Below.ext0 ?_ _ | with_reducible refine Below.drew ?_ | with_reducible refine below_drewN ?_ _ | (with_reducible refine Below.setCell (hp := ?hp) ?_ _; case hp => (first | (simp; done) | (simp; omega)))))
      · have k3 : ¬ R1 < R3 := by omega
        have g12 : decide (R1 < R2) = false := decide_eq_false k1
        have g23 : decide (R2 < R3) = false := decide_eq_false k2
        have g13 : decide (R1 < R3) = false := decide_eq_false k3
        have ho : ord3 R1 R2 R3 = (0, 1, 2) := by unfold ord3; simp [k1, k2, k3]
        have hsp : Hid (splitP n a b c = (Q1 + 1, Q2 + 1, Q3)) := Lib.hid (by rw [HS.out, ho]; simp [incN])
        clear HS HO ho
        as_aux_lemma =>
        refine wp_loop_rounds 3 ?_
        rw [rounds_succ]
        go_wp2_with fail
        refine wp_loop_rounds 4 ?_
        rw [rounds_succ]
        go_wp2_with fail
        go_quiet (fail)
        go_wp2_with fail
        rw [rounds_succ]
        go_wp2_with fail
        go_quiet (fail)
        go_wp2_with fail
        rw [rounds_succ]
        go_wp2_with fail
        go_quiet (fail)
        go_wp2_with fail
        rw [rounds_succ]
        go_wp2_with fail
        rw [rounds_succ]
        go_wp2_with fail
        refine wp_loop_rounds 4 ?_
        rw [rounds_succ]
        go_wp2_with fail
        go_quiet (fail)
        go_wp2_with fail
        rw [rounds_succ]
        go_wp2_with fail
        go_quiet (fail)
        go_wp2_with fail
        rw [rounds_succ]
        go_wp2_with fail
        go_quiet (fail)
        go_wp2_with fail
        rw [rounds_succ]
        go_wp2_with fail
        rw [rounds_succ]
        go_wp2_with fail
        refine bodyPost_ret (v := .tuple #[.slice (some ⟨ob, 0, none⟩) 3 3, .int .i64 0]) (by simp [results, Try.results44, go_sem]) rfl ?_
        refine ⟨ob, rfl, ?_, ?_⟩
        · rw [hsp.out]
          exact set_eq2 ((bk_drewN (((bk_drewN HV.out.2.2.1 _).far (by show ob ≠ db; omega) _).set_ 0 _) _).far (by show ob ≠ db; omega) _) rfl
        · have hw := HV.out.1
          (repeat (first | with_reducible exact Below.refl _ _ | with_reducible assumption | with_reducible refine Below.alloc0 ?_ _ | with_reducible refine Below.ext0 ?_ _ | with_reducible refine Below.drew ?_ | with_reducible refine below_drewN ?_ _ | (with_reducible refine Below.setCell (hp := ?hp) ?_ _; case hp => (first | (simp; done) | (simp; omega)))))
end Go.Proofs.Ytggmihnhdojepaa
