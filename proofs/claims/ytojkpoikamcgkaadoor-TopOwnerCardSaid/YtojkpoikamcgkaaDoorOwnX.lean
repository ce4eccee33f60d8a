/- The law's example: a title handed on to the owners of some secrets. -/
import Derived.Test.YtojkpoikamcgkaaDoorOwnW
import Derived.Test.YtojkpoikamcgkaaDoorPlanT
namespace Go.Proofs.YtojkpoikamcgkaaDoor
open Go.RowKit Go.Shelf
set_option linter.unusedVariables false
set_option linter.unusedSimpArgs false
attribute [local go_sem] ext_cell ext_frozen lt_ext ext_drew

set_option maxRecDepth 100000 in
set_option maxHeartbeats 4000000 in
theorem passed_any (A : Option Addr) (ss : List ByteArray) (n cap : Nat) (hn : ss.length = n) (w : World) (B : Nat) (h : Elems tStr w B A ss) (hB : B ≤ w.heap.size) (h1 : 1 ≤ n) (h2 : n ≤ 40) (hs : ∀ s ∈ ss, s.size ≤ 1000) (ha : ApartT ss n) (ht : Tabs w) :
    Calls Tryd.prog 12 #[.int .i64 10001, .slice A n cap] w fun e w' => ∃ A' c', e = .returned (.agg #[.int .i64 10001, .int .i64 0, .int .i64 3, .string (keyT ss 0), .slice A' (n - 1) c']) ∧
      Elems tTr w' w'.heap.size A' (chT 10001 0 ss (n - 1)) ∧ n - 1 ≤ c' ∧ c' ≤ maxLen ∧ Below w.heap.size w w' := by
  have hsec : ∀ i, i < n → ∃ b off s, A = some ⟨b, off, none⟩ ∧ b < B ∧ w.cell? ⟨b, off + i, none⟩ = some (.string s) ∧ s = secT ss i ∧ s.size ≤ 1000 := fun i hi => by
    obtain ⟨b, off, s, e1, e2, e3, e4, e5⟩ := pick_str h (k := i) (by omega)
    have e6 : s = secT ss i := by unfold secT; rw [List.getD_eq_getElem?_getD, e3.out]; rfl
    exact ⟨b, off, s, e1, e2, e4, e6, hs s (List.mem_of_getElem? e3.out)⟩
  obtain ⟨b, off, s0, rfl, hb, hc0, hs0, hz0⟩ := hsec 0 (by omega)
  have hcell : ∀ i, i < n → ∃ s, w.cell? ⟨b, off + i, none⟩ = some (.string s) ∧ s = secT ss i ∧ s.size ≤ 1000 := fun i hi => by
    obtain ⟨b2, off2, s, e1, e2, e4, e6, e7⟩ := hsec i hi
    cases e1
    exact ⟨s, e4, e6, e7⟩
  have hval := fun (k : Nat) (hk : k < n) => chT_valid (se := 10001) (sh := 0) (pl := 3) ha (headB_10001 _ (keyT_is ss 0)) k hk (by omega)
  have hfree := fun (k : Nat) (hk : k + 1 < n) => chT_free (se := 10001) (sh := 0) ha hk
  have hbw : b < w.heap.size := by omega
  have hpub0 := fun (X : World) (htx : Tabs X) => public_any s0 hz0 X htx
  obtain ⟨K0, hK0⟩ : ∃ K, keyT ss 0 = K := ⟨_, rfl⟩
  have hk0 : mkB (publicL s0) = K0 := by rw [hs0]; exact hK0
  rw [hk0] at hpub0
  have HH := Lib.hid (And.intro hcell (And.intro hval (And.intro hfree (And.intro ht (And.intro hpub0 hK0)))))
  have c0 : w.cell? ⟨b, off, none⟩ = some (.string s0) := hc0
  have hpos : (0 : Int) < (n : Int) := by omega
  clear hcell hval hfree ht h hs ha hsec hc0 hn hpub0 hk0 hs0
  go_enter Tryd.func12, Tryd.ntmps12
  go_upto_region 2 with (go_at_call 23; refine Calls.mono (HH.out.2.2.2.2.1 _ (HH.out.2.2.2.1.below (below_self w _))) ?_; rintro e w1 ⟨rfl, hbb⟩; have HW1 := Lib.hid hbb; clear hbb)
  have z1 := HW1.out.size
  have z1' : w.heap.size + 1 ≤ w1.heap.size := by simpa using z1
  have hbw1 : Below w.heap.size w w1 := (below_self w _).trans (HW1.out.mono (by simp))
  refine forget (fun Y => Below w.heap.size w Y ∧ Bk Y w1.heap.size #[.int .i64 10001, .int .i64 0, .int .i64 3, .string K0, .slice none 0 0] 24 ∧ Bk Y w.heap.size #[.int .i64 0, .int .i64 0, .int .i64 0, .string ⟨#[]⟩, .slice none 0 0] 24 ∧ w1.heap.size < Y.heap.size) ⟨hbw1.trans ((below_self w1 _).mono (by omega)), Bk.new _ _ _, ((Bk.new w _ _).below HW1.out).below (below_self w1 _), by simp⟩ ?_
  generalize w1.heap.size = TB at *
  clear HW1 hbw1 z1
  rintro Y ⟨y1, y2, y3, y4⟩
  have HY := Lib.hid (And.intro y1 (And.intro y2 y3))
  clear y1 y2 y3
  go_wp2_with fail
  go_loopw [6] (fun i wr => ∃ j k : Nat, Hid (j = k + 1) ∧ j ≤ n ∧ i = .int .i64 j ∧ Below w.heap.size w wr ∧ TB < wr.heap.size ∧ Bk wr w.heap.size #[.int .i64 0, .int .i64 0, .int .i64 0, .string ⟨#[]⟩, .slice none 0 0] 24 ∧
    ∃ Ak ck, Bk wr TB #[.int .i64 10001, .int .i64 0, .int .i64 3, .string K0, .slice Ak k ck] 24 ∧ Elems (tTrG (TB + 1)) wr wr.heap.size Ak (chT 10001 0 ss k) ∧ (∀ b off fr, Ak = some ⟨b, off, fr⟩ → TB + 1 ≤ b) ∧ k ≤ ck ∧ ck ≤ maxLen) (fun i _ => n - (intOf i).toNat)
  case atStart => exact ⟨1, 0, Lib.hid rfl, h1, rfl, HY.out.1, y4, HY.out.2.2, none, 0, HY.out.2.1, Elems.nil, fun _ _ _ e => (by cases e), Nat.le_refl _, by unfold maxLen; omega⟩
  case round =>
    obtain ⟨j, k, hjk, hjn, rfl, g1, g2, g3, Ak, ck, g4, g5, g6, g7, g8⟩ := hrel
    generalize wr = wA at *
    have hjk2 := hjk.out
    by_cases hlt : j < n
    · as_aux_lemma =>
      obtain ⟨s1, d1, hs1, hz1⟩ := HH.out.1 j hlt
      obtain ⟨s2, d2, hs2, hz2⟩ := HH.out.1 k (by omega)
      obtain ⟨KJ, hKJ⟩ : ∃ K, keyT ss j = K := ⟨_, rfl⟩
      have hpj : ∀ X, Tabs X → Calls Tryd.prog 23 #[.string s1] X fun e w' => e = .returned (.string KJ) ∧ Below X.heap.size X w' := fun X hx => by
        have q := public_any s1 hz1 X hx
        rw [show mkB (publicL s1) = KJ from by rw [hs1]; exact hKJ] at q
        exact q
      have hch : chT 10001 0 ss k ++ [nextT 10001 0 (keyT ss 0) (chT 10001 0 ss k) (keyT ss j) s2] = chT 10001 0 ss j := by
        rw [hjk2, chT, hs2]
      have hpass : ∀ X, Below wA.heap.size wA X → Calls Tryd.prog 24 #[.agg #[.int .i64 10001, .int .i64 0, .int .i64 3, .string K0, .slice Ak k ck], .string KJ, .string s2] X fun e w' => ∃ A' c', e = .returned (.tuple #[.agg #[.int .i64 10001, .int .i64 0, .int .i64 3, .string K0, .slice A' j c'], .int .i64 0]) ∧
          Elems (tTrG (TB + 1)) w' w'.heap.size A' (chT 10001 0 ss j) ∧ (∀ b off fr, A' = some ⟨b, off, fr⟩ → X.heap.size ≤ b) ∧ j ≤ c' ∧ c' ≤ maxLen ∧ Below X.heap.size X w' := fun X hX => by
        have hzX := hX.size
        have q := pass_any (TB + 1) (keyT ss j) s2 10001 0 3 (keyT ss 0) Ak (chT 10001 0 ss k) ck X wA.heap.size (g5.keep hX (Nat.le_refl _)) (by omega) hzX (by rw [chT_len]; exact g7) g8 (chT_small _ _ _ _) (by omega) (by omega) (by omega) (by omega) (by omega) (by omega)
          (HH.out.2.1 k (by omega)) (keyT_is _ _) (by rw [chT_len]; omega) (by rw [hjk2]; exact HH.out.2.2.1 k (by omega)) hz2 (by rw [chT_owner, hs2]; rfl) (HH.out.2.2.2.1.below (g1.trans (hX.mono g1.size)))
        rw [hch, chT_len, HH.out.2.2.2.2.2, hKJ, ← hjk2] at q
        exact q
      have c1 := (g1.cell (p := ⟨b, off + j, none⟩) hbw).trans d1
      have c2 := (g1.cell (p := ⟨b, off + k, none⟩) hbw).trans d2
      have zA := g1.size
      have hbA : b < wA.heap.size := by omega
      have hi1 : (j : Int) - 1 = (k : Int) := by omega
      have hi2 : (j : Int) < (n : Int) := by omega
      have hi3 : (k : Int) < (n : Int) := by omega
      have t0 := g4.cell 0
      have t1 := g4.cell 1
      have t2 := g4.cell 2
      have t3 := g4.cell 3
      have t4 := g4.cell 4
      have HA := Lib.hid (And.intro hpj (And.intro hpass (And.intro g1 (And.intro g3 (And.intro g4 (And.intro g6 HH.out.2.2.2.1))))))
      clear hpj hpass hch hKJ g1 g3 g4 g5 g6 d1 d2 hs1 hs2 hjk2 c0
      go_wp2_with fail
      have HD0 := Lib.hid (show Below wA.heap.size wA wA.drew from (Below.refl _ _).drew)
      have hmem := fun (X : World) (h : Below wA.heap.size wA X) => show ∃ u, X = ext wA u from (let ⟨u, e⟩ := ext_of h; ⟨u, e.symm⟩)
      have HX := Lib.hid hmem
      clear hmem
      refine region_plant (S := fun w' => ∃ u, w' = ext wA u) [([0, 1, 2, 3, 4, 6, 7, 8, 9, 10], [5, 11])] 12 [([12, 13, 14], [15])] (by kernel_rfl) (by kernel_rfl) (HX.out _ HD0.out) ?_
      refine plan_take (fun K9 h9 => ?_)
      simp only [List.map_cons, List.map_nil, pickO, List.getD_cons_zero, List.getD_cons_succ]
      repeat (go_big_quiet_step (fail))
      refine wpQuiet_nil (h9 _ ?_)
      clear h9 K9
      refine plan_run (fun K9 h9 => ?_)
      simp only [pickO, List.getD_cons_zero, List.getD_cons_succ]
      go_wp2_with (go_at_call 23; refine Calls.mono (HA.out.1 _ (HA.out.2.2.2.2.2.2.below (HA.out.2.2.1.trans (HD0.out.mono zA)))) ?_; rintro e w5 ⟨rfl, hbb⟩)
      have HZ := Lib.hid (Below.trans0 HD0.out hbb)
      refine h9 _ _ (HX.out _ HZ.out) ?_
      clear h9 K9 hbb
      refine plan_run (fun K9 h9 => ?_)
      simp only [pickO, List.getD_cons_zero, List.getD_cons_succ]
      go_wp2_with (go_at_call 24; refine Calls.mono (HA.out.2.1 _ HZ.out) ?_; rintro e w6 ⟨A6, c6, rfl, p1, p2, p3, p4, hbb⟩)
      have zZ := HZ.out.size
      have HZ2 := Lib.hid (And.intro (Below.trans0 HZ.out hbb) (And.intro p1 p2))
      refine h9 _ _ (HX.out _ HZ2.out.1) ?_
      clear h9 K9 hbb p1 p2
      refine plan_next (plan_end (plan_then ?_))
      refine plan_take (fun K9 h9 => ?_)
      simp only [List.map_cons, List.map_nil, pickO, List.getD_cons_zero, List.getD_cons_succ]
      repeat (go_big_quiet_step (fail))
      refine wpQuiet_nil (h9 _ ?_)
      clear h9 K9
      refine plan_run (fun K9 h9 => ?_)
      simp only [pickO, List.getD_cons_zero, List.getD_cons_succ]
      have b6 := HA.out.2.2.2.2.1.below HZ2.out.1
      have l6 := b6.lt
      have f6 := b6.free
      have e0 := b6.cell 0
      have e1 := b6.cell 1
      have e2 := b6.cell 2
      have e3 := b6.cell 3
      have e4 := b6.cell 4
      have HB6 := Lib.hid b6
      clear b6
      go_wp2_with fail
      have hon : Only (fun g => g = TB) w6 (((((w6.setCell ⟨TB, 0, none⟩ (.int .i64 10001)).setCell ⟨TB, 1, none⟩ (.int .i64 0)).setCell ⟨TB, 2, none⟩ (.int .i64 3)).setCell ⟨TB, 3, none⟩ (.string K0)).setCell ⟨TB, 4, none⟩ (.slice A6 j c6)) := by (repeat (first | with_reducible exact Only.refl _ _ | with_reducible assumption | with_reducible refine Only.alloc ?_ _ | with_reducible refine Only.ext0 ?_ _ | with_reducible refine Only.drew ?_ | with_reducible refine Only.drewN ?_ _ | (with_reducible refine Only.set_ (hp := ?hp) ?_ _; case hp => (first | (left; rfl) | (left; left; rfl) | (right; simp; done) | (right; simp; omega) | (left; simp; done) | (left; simp [*]; done)))))
      have hbt := ((((HB6.out.set_ 0 (.int .i64 10001)).set_ 1 (.int .i64 0)).set_ 2 (.int .i64 3)).set_ 3 (.string K0)).set_ 4 (.slice A6 j c6)
      simp only [List.setIfInBounds_toArray, List.set_cons_zero, List.set_cons_succ] at hbt
      have HF := Lib.hid (And.intro hon hbt)
      clear hon hbt
      generalize (((((w6.setCell ⟨TB, 0, none⟩ (.int .i64 10001)).setCell ⟨TB, 1, none⟩ (.int .i64 0)).setCell ⟨TB, 2, none⟩ (.int .i64 3)).setCell ⟨TB, 3, none⟩ (.string K0)).setCell ⟨TB, 4, none⟩ (.slice A6 j c6)) = WF at *
      refine h9 _ _ trivial ?_
      clear h9 K9
      refine plan_next (plan_end ?_)
      go_wp2_with fail
      go_roundw
      case rel =>
        have zZ2 := HZ2.out.1.size
        have zF := HF.out.1.size
        refine ⟨j + 1, j, Lib.hid rfl, by omega, by go_num, ?_, by omega, ?_, A6, c6, HF.out.2, ?_, fun b off fr e => ?_, p3, p4⟩
        · exact (HA.out.2.2.1.trans (HZ2.out.1.mono zA)).trans (HF.out.1.to_below (B := w.heap.size) (fun g hg => by omega) (by omega))
        · exact (HF.out.1.block w.heap.size (by omega) (by omega)).trans (HA.out.2.2.2.1.below HZ2.out.1)
        · refine (elemsG_only HZ2.out.2.1 (fun b off fr e => ?_) HF.out.1 (fun g hg => by omega) (Nat.le_refl _)).keep (Below.refl _ _) zF
          have := HZ2.out.2.2 b off fr e
          omega
        · have := HZ2.out.2.2 b off fr e
          omega
      case measure => simp [intOf]; omega
    · as_aux_lemma =>
      have hjn2 : j = n := by omega
      have t0 := g4.cell 0
      have t1 := g4.cell 1
      have t2 := g4.cell 2
      have t3 := g4.cell 3
      have t4 := g4.cell 4
      have r0 := g3.cell 0
      have r1 := g3.cell 1
      have r2 := g3.cell 2
      have r3 := g3.cell 3
      have r4 := g3.cell 4
      have lw := g3.lt
      have fw := g3.free
      have hi2 : ¬ (j : Int) < (n : Int) := by omega
      have HA := Lib.hid (And.intro g1 (And.intro g3 (And.intro g5 (And.intro g6 (And.intro hjn2 (And.intro hjk2 HH.out.2.2.2.2.2))))))
      clear g1 g3 g4 g5 g6 hjn2 hjk2 c0
      go_wp2_with fail
      have hkn : k = n - 1 := by have := HA.out.2.2.2.2.1; have := HA.out.2.2.2.2.2.1; omega
      subst hkn
      refine bodyPost_ret (v := .agg #[.int .i64 10001, .int .i64 0, .int .i64 3, .string K0, .slice Ak (n - 1) ck]) (results_cell Tryd.results12 (p := ⟨w.heap.size, 0, none⟩) rfl (run_loadVar_at (b := w.heap.size) (off := 0) (cs := #[.int .i64 10001, .int .i64 0, .int .i64 3, .string K0, .slice Ak (n - 1) ck]) (fun j u h => ?_) Tryd.underlying24 rfl (by kernel_rfl))) rfl ?_
      · have b1f := ((((HA.out.2.1.set_ 0 (.int .i64 10001)).set_ 1 (.int .i64 0)).set_ 2 (.int .i64 3)).set_ 3 (.string K0)).set_ 4 (.slice Ak (n - 1) ck)
        simp only [List.setIfInBounds_toArray, List.set_cons_zero, List.set_cons_succ] at b1f
        rw [Nat.zero_add, b1f.cell]
        exact h
      · have hon : Only (fun g => g = w.heap.size) wA (((((wA.setCell ⟨w.heap.size, 0, none⟩ (.int .i64 10001)).setCell ⟨w.heap.size, 1, none⟩ (.int .i64 0)).setCell ⟨w.heap.size, 2, none⟩ (.int .i64 3)).setCell ⟨w.heap.size, 3, none⟩ (.string K0)).setCell ⟨w.heap.size, 4, none⟩ (.slice Ak (n - 1) ck)) := by (repeat (first | with_reducible exact Only.refl _ _ | with_reducible assumption | with_reducible refine Only.alloc ?_ _ | with_reducible refine Only.ext0 ?_ _ | with_reducible refine Only.drew ?_ | with_reducible refine Only.drewN ?_ _ | (with_reducible refine Only.set_ (hp := ?hp) ?_ _; case hp => (first | (left; rfl) | (left; left; rfl) | (right; simp; done) | (right; simp; omega) | (left; simp; done) | (left; simp [*]; done)))))
        refine ⟨Ak, ck, rfl, ?_, by omega, g8, HA.out.1.trans (hon.to_below (B := w.heap.size) (fun g hg => by omega) (by omega))⟩
        exact elems_drop ((elemsG_only HA.out.2.2.1 HA.out.2.2.2.1 hon (fun g hg => by omega) (Nat.le_refl _)).keep (Below.refl _ _) hon.size)
end Go.Proofs.YtojkpoikamcgkaaDoor
