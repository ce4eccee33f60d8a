/- Layer 12 (resolve): the limits; the ranges that the operations leave. -/
import Derived.Test.YtecjhniomjmocaaResC
import Derived.Test.YtecjhniomjmocaaWild
import Derived.Deep.DeepCutAuto
namespace Go.Proofs.Ytecjhniomjmocaa
open Go.RowKit Go.ChangeAt
set_option linter.unusedVariables false
set_option linter.unusedSimpArgs false
attribute [local go_sem] ext_cell ext_frozen lt_ext ext_drew

def znV (z : Zn) : Array Value := (pairsV z).toArray
theorem info_zone : (Try.prog.info? 42).map (·.size) = some (znV limZ).size := by kernel_rfl
set_option maxRecDepth 100000 in
set_option maxHeartbeats 1000000 in
theorem limits_any (w : World) : Calls Try.prog 14 #[] w fun e w' => e = .returned (.agg (znV limZ)) ∧ Below w.heap.size w w' := by
  go_enter Try.func14, Try.ntmps14
  go_wp2_with (refine list_store_fresh (o := ⟨none, .store 42 _ _, _, _, _, _⟩) rfl _ _ _ rfl (znV limZ) rfl rfl info_zone rfl (one_pairs limZ) ?_)
  exact bodyPost_ret (v := .agg (znV limZ)) (results_cell_row rfl _ _ w.heap.size 42 (znV limZ) (0, 0) _ rfl (heap_alloc_new w _) Try.underlying42 rfl info_zone) rfl ⟨rfl, below_self _ _⟩
/-- The map of what the operations leave. -/
def RangesAt (w : World) (mb : Nat) (r : Rg) (n : Int) : Prop :=
  ∃ l, IntMap w mb l ∧ ∀ op : Int, 1 ≤ op → op ≤ 6 → ∃ g, findI op l = some (.slice (some ⟨g, 0, none⟩) (candP r op n).length (candP r op n).length) ∧ Bk w g (pairsV (candP r op n)).toArray 40
set_option maxRecDepth 100000 in
set_option maxHeartbeats 4000000 in
theorem ranges_any (lo hi n : Int) (w : World) (hlo : fits lo) (hhi : fits hi) (hn : 0 ≤ n ∧ n ≤ 1000000000) :
    Calls Try.prog 43 #[.agg #[.int .i64 lo, .int .i64 hi], .int .i64 n] w fun e w' => ∃ mb, e = .returned (.map (some mb)) ∧ RangesAt w' mb (lo, hi) n ∧ Below w.heap.size w w' := by
  unfold fits at hlo hhi
  obtain ⟨l1, l2⟩ := hlo
  obtain ⟨k1, k2⟩ := hhi
  obtain ⟨n1, n2⟩ := hn
  go_enter Try.func43, Try.ntmps43
  go_upto_region 1 with (fail)
  have HB := Lib.hid (Bk.new w #[.int .i64 lo, .int .i64 hi] 40)
  go_cut [5, 6] (fun v5 v6 X => ∃ p5 p6, v5 = .pointer (some ⟨p5, 0, none⟩) ∧ v6 = .pointer (some ⟨p6, 0, none⟩) ∧ Bk X w.heap.size #[.int .i64 lo, .int .i64 hi] 40 ∧ Bk X p5 #[.int .i64 lo, .int .i64 (min hi (n - 1))] 40 ∧ Bk X p6 #[.int .i64 (max lo (n + 1)), .int .i64 hi] 40 ∧ Below w.heap.size w X)
  case first =>
    have hmx := ite_max
    have hmn := ite_min
    go_big_region
    all_goals go_wp2_with fail
    all_goals go_meet
    · exact ⟨w.heap.size + 1, w.heap.size + 1 + 1, rfl, rfl, ((HB.out.alloc _).alloc _).drew, ((bk_new_at _ _ _ _ (by simp)).alloc _).drew, (bk_new_at _ _ _ _ (by simp)).drew, by (repeat (first | with_reducible exact Below.refl _ _ | with_reducible assumption | with_reducible refine Below.alloc0 ?_ _ | with_reducible refine Below.ext0 ?_ _ | with_reducible refine Below.drew ?_ | with_reducible refine below_drewN ?_ _ | (with_reducible refine Below.setCell (hp := ?hp) ?_ _; case hp => (first | (simp; done) | (simp; omega)))))⟩
    · exact ⟨w.heap.size + 1 + 1, w.heap.size + 1, rfl, rfl, ((HB.out.alloc _).alloc _).drew, (bk_new_at _ _ _ _ (by simp)).drew, ((bk_new_at _ _ _ _ (by simp)).alloc _).drew, by (repeat (first | with_reducible exact Below.refl _ _ | with_reducible assumption | with_reducible refine Below.alloc0 ?_ _ | with_reducible refine Below.ext0 ?_ _ | with_reducible refine Below.drew ?_ | with_reducible refine below_drewN ?_ _ | (with_reducible refine Below.setCell (hp := ?hp) ?_ _; case hp => (first | (simp; done) | (simp; omega)))))⟩
  case rest =>
  obtain ⟨Y, hY9⟩ : ∃ Y, Y = wc := ⟨_, rfl⟩
  rw [← hY9] at hcut ⊢
  obtain ⟨p5, p6, rfl, rfl, b0, b5, b6, hlow⟩ := hcut
  have c0 := b0.cell
  have c5 := b5.cell
  have c6 := b6.cell
  have m0 := b0.lt
  have m5 := b5.lt
  have m6 := b6.lt
  have HK := Lib.hid hlow
  clear hlow HB hY9
  have y0 := m0
  have y5 := m5
  have y6 := m6
  have hYw := HK.out.size
  have hmm := @run_makeMap Try.prog
  have hmx := ite_max
  have hmn := ite_min
  go_wp2_with (first
    | (refine list_putI rfl _ _ _ _ rfl 3 113 Try.underlying114 Try.underlying3 rfl ((IntMap.new Y).below (below_self _ _)) 1 rfl rfl (.slice (some ⟨(Y.heap.size + 1), 0, none⟩) 1 1) rfl ?_; intro wA hA oA; have HA : Hid (IntMap wA Y.heap.size [(1, .slice (some ⟨(Y.heap.size + 1), 0, none⟩) 1 1)] ∧ Bk wA w.heap.size #[.int .i64 lo, .int .i64 hi] 40 ∧ Bk wA p5 #[.int .i64 lo, .int .i64 (min hi (n - 1))] 40 ∧ Bk wA p6 #[.int .i64 (max lo (n + 1)), .int .i64 hi] 40 ∧ Bk wA (Y.heap.size + 1) #[.int .i64 (max lo n), .int .i64 (min hi n)] 40 ∧ Below Y.heap.size Y wA ∧ Y.heap.size + 2 ≤ wA.heap.size) := Lib.hid ⟨hA, ((b0.alloc _).alloc _).only oA (by omega), ((b5.alloc _).alloc _).only oA (by omega), ((b6.alloc _).alloc _).only oA (by omega), (bk_new_at _ _ _ _ (by simp)).only oA (by omega), ((Below.refl Y.heap.size Y).alloc (Nat.le_refl _) _ |>.alloc (by simp) _).trans (oA.to_below (fun g hg => by omega) (by simp; omega)), by have := oA.size; simpa using this⟩; clear hA oA; replace c0 := HA.out.2.1.cell; replace c5 := HA.out.2.2.1.cell; replace c6 := HA.out.2.2.2.1.cell; replace m0 := HA.out.2.1.lt; replace m5 := HA.out.2.2.1.lt; replace m6 := HA.out.2.2.2.1.lt; have zA := HA.out.2.2.2.2.2.2)
    | (refine list_putI rfl _ _ _ _ rfl 3 113 Try.underlying114 Try.underlying3 rfl (HA.out.1.below (below_self _ _)) 2 rfl rfl (.slice (some ⟨wA.heap.size, 0, none⟩) 2 2) rfl ?_; intro wB hB oB; have HB : Hid (IntMap wB Y.heap.size [(1, .slice (some ⟨(Y.heap.size + 1), 0, none⟩) 1 1), (2, .slice (some ⟨wA.heap.size, 0, none⟩) 2 2)] ∧ Bk wB w.heap.size #[.int .i64 lo, .int .i64 hi] 40 ∧ Bk wB p5 #[.int .i64 lo, .int .i64 (min hi (n - 1))] 40 ∧ Bk wB p6 #[.int .i64 (max lo (n + 1)), .int .i64 hi] 40 ∧ Bk wB (Y.heap.size + 1) #[.int .i64 (max lo n), .int .i64 (min hi n)] 40 ∧ Bk wB wA.heap.size #[.int .i64 (lo), .int .i64 (min hi (n - 1)), .int .i64 (max lo (n + 1)), .int .i64 (hi)] 40 ∧ Below Y.heap.size Y wB ∧ Y.heap.size + 2 ≤ wB.heap.size) := Lib.hid ⟨hB, (HA.out.2.1.alloc _).only oB (by omega), (HA.out.2.2.1.alloc _).only oB (by omega), (HA.out.2.2.2.1.alloc _).only oB (by omega), (HA.out.2.2.2.2.1.alloc _).only oB (by omega), (Bk.new _ _ _).only oB (by omega), ((HA.out.2.2.2.2.2.1).alloc (by omega) _).trans (oB.to_below (fun g hg => by omega) (by simp; omega)), by have := oB.size; simp at this; omega⟩; clear hB oB; replace c0 := HB.out.2.1.cell; replace c5 := HB.out.2.2.1.cell; replace c6 := HB.out.2.2.2.1.cell; replace m0 := HB.out.2.1.lt; replace m5 := HB.out.2.2.1.lt; replace m6 := HB.out.2.2.2.1.lt; have zB := HB.out.2.2.2.2.2.2.2)
    | (refine list_putI rfl _ _ _ _ rfl 3 113 Try.underlying114 Try.underlying3 rfl (HB.out.1.below (below_self _ _)) 3 rfl rfl (.slice (some ⟨wB.heap.size, 0, none⟩) 1 1) rfl ?_; intro wC hC oC; have HC : Hid (IntMap wC Y.heap.size [(1, .slice (some ⟨(Y.heap.size + 1), 0, none⟩) 1 1), (2, .slice (some ⟨wA.heap.size, 0, none⟩) 2 2), (3, .slice (some ⟨wB.heap.size, 0, none⟩) 1 1)] ∧ Bk wC w.heap.size #[.int .i64 lo, .int .i64 hi] 40 ∧ Bk wC p5 #[.int .i64 lo, .int .i64 (min hi (n - 1))] 40 ∧ Bk wC p6 #[.int .i64 (max lo (n + 1)), .int .i64 hi] 40 ∧ Bk wC (Y.heap.size + 1) #[.int .i64 (max lo n), .int .i64 (min hi n)] 40 ∧ Bk wC wA.heap.size #[.int .i64 (lo), .int .i64 (min hi (n - 1)), .int .i64 (max lo (n + 1)), .int .i64 (hi)] 40 ∧ Bk wC wB.heap.size #[.int .i64 (lo), .int .i64 (min hi (n - 1))] 40 ∧ Below Y.heap.size Y wC ∧ Y.heap.size + 2 ≤ wC.heap.size) := Lib.hid ⟨hC, (HB.out.2.1.alloc _).only oC (by omega), (HB.out.2.2.1.alloc _).only oC (by omega), (HB.out.2.2.2.1.alloc _).only oC (by omega), (HB.out.2.2.2.2.1.alloc _).only oC (by omega), (HB.out.2.2.2.2.2.1.alloc _).only oC (by omega), (Bk.new _ _ _).only oC (by omega), ((HB.out.2.2.2.2.2.2.1).alloc (by omega) _).trans (oC.to_below (fun g hg => by omega) (by simp; omega)), by have := oC.size; simp at this; omega⟩; clear hC oC; replace c0 := HC.out.2.1.cell; replace c5 := HC.out.2.2.1.cell; replace c6 := HC.out.2.2.2.1.cell; replace m0 := HC.out.2.1.lt; replace m5 := HC.out.2.2.1.lt; replace m6 := HC.out.2.2.2.1.lt; have zC := HC.out.2.2.2.2.2.2.2.2)
    | (refine list_putI rfl _ _ _ _ rfl 3 113 Try.underlying114 Try.underlying3 rfl (HC.out.1.below (below_self _ _)) 4 rfl rfl (.slice (some ⟨wC.heap.size, 0, none⟩) 1 1) rfl ?_; intro wD hD oD; have HD : Hid (IntMap wD Y.heap.size [(1, .slice (some ⟨(Y.heap.size + 1), 0, none⟩) 1 1), (2, .slice (some ⟨wA.heap.size, 0, none⟩) 2 2), (3, .slice (some ⟨wB.heap.size, 0, none⟩) 1 1), (4, .slice (some ⟨wC.heap.size, 0, none⟩) 1 1)] ∧ Bk wD w.heap.size #[.int .i64 lo, .int .i64 hi] 40 ∧ Bk wD p5 #[.int .i64 lo, .int .i64 (min hi (n - 1))] 40 ∧ Bk wD p6 #[.int .i64 (max lo (n + 1)), .int .i64 hi] 40 ∧ Bk wD (Y.heap.size + 1) #[.int .i64 (max lo n), .int .i64 (min hi n)] 40 ∧ Bk wD wA.heap.size #[.int .i64 (lo), .int .i64 (min hi (n - 1)), .int .i64 (max lo (n + 1)), .int .i64 (hi)] 40 ∧ Bk wD wB.heap.size #[.int .i64 (lo), .int .i64 (min hi (n - 1))] 40 ∧ Bk wD wC.heap.size #[.int .i64 (lo), .int .i64 (min hi n)] 40 ∧ Below Y.heap.size Y wD ∧ Y.heap.size + 2 ≤ wD.heap.size) := Lib.hid ⟨hD, (HC.out.2.1.alloc _).only oD (by omega), (HC.out.2.2.1.alloc _).only oD (by omega), (HC.out.2.2.2.1.alloc _).only oD (by omega), (HC.out.2.2.2.2.1.alloc _).only oD (by omega), (HC.out.2.2.2.2.2.1.alloc _).only oD (by omega), (HC.out.2.2.2.2.2.2.1.alloc _).only oD (by omega), (Bk.new _ _ _).only oD (by omega), ((HC.out.2.2.2.2.2.2.2.1).alloc (by omega) _).trans (oD.to_below (fun g hg => by omega) (by simp; omega)), by have := oD.size; simp at this; omega⟩; clear hD oD; replace c0 := HD.out.2.1.cell; replace c5 := HD.out.2.2.1.cell; replace c6 := HD.out.2.2.2.1.cell; replace m0 := HD.out.2.1.lt; replace m5 := HD.out.2.2.1.lt; replace m6 := HD.out.2.2.2.1.lt; have zD := HD.out.2.2.2.2.2.2.2.2.2)
    | (refine list_putI rfl _ _ _ _ rfl 3 113 Try.underlying114 Try.underlying3 rfl (HD.out.1.below (below_self _ _)) 5 rfl rfl (.slice (some ⟨wD.heap.size, 0, none⟩) 1 1) rfl ?_; intro wE hE oE; have HE : Hid (IntMap wE Y.heap.size [(1, .slice (some ⟨(Y.heap.size + 1), 0, none⟩) 1 1), (2, .slice (some ⟨wA.heap.size, 0, none⟩) 2 2), (3, .slice (some ⟨wB.heap.size, 0, none⟩) 1 1), (4, .slice (some ⟨wC.heap.size, 0, none⟩) 1 1), (5, .slice (some ⟨wD.heap.size, 0, none⟩) 1 1)] ∧ Bk wE w.heap.size #[.int .i64 lo, .int .i64 hi] 40 ∧ Bk wE p5 #[.int .i64 lo, .int .i64 (min hi (n - 1))] 40 ∧ Bk wE p6 #[.int .i64 (max lo (n + 1)), .int .i64 hi] 40 ∧ Bk wE (Y.heap.size + 1) #[.int .i64 (max lo n), .int .i64 (min hi n)] 40 ∧ Bk wE wA.heap.size #[.int .i64 (lo), .int .i64 (min hi (n - 1)), .int .i64 (max lo (n + 1)), .int .i64 (hi)] 40 ∧ Bk wE wB.heap.size #[.int .i64 (lo), .int .i64 (min hi (n - 1))] 40 ∧ Bk wE wC.heap.size #[.int .i64 (lo), .int .i64 (min hi n)] 40 ∧ Bk wE wD.heap.size #[.int .i64 (max lo (n + 1)), .int .i64 (hi)] 40 ∧ Below Y.heap.size Y wE ∧ Y.heap.size + 2 ≤ wE.heap.size) := Lib.hid ⟨hE, (HD.out.2.1.alloc _).only oE (by omega), (HD.out.2.2.1.alloc _).only oE (by omega), (HD.out.2.2.2.1.alloc _).only oE (by omega), (HD.out.2.2.2.2.1.alloc _).only oE (by omega), (HD.out.2.2.2.2.2.1.alloc _).only oE (by omega), (HD.out.2.2.2.2.2.2.1.alloc _).only oE (by omega), (HD.out.2.2.2.2.2.2.2.1.alloc _).only oE (by omega), (Bk.new _ _ _).only oE (by omega), ((HD.out.2.2.2.2.2.2.2.2.1).alloc (by omega) _).trans (oE.to_below (fun g hg => by omega) (by simp; omega)), by have := oE.size; simp at this; omega⟩; clear hE oE; replace c0 := HE.out.2.1.cell; replace c5 := HE.out.2.2.1.cell; replace c6 := HE.out.2.2.2.1.cell; replace m0 := HE.out.2.1.lt; replace m5 := HE.out.2.2.1.lt; replace m6 := HE.out.2.2.2.1.lt; have zE := HE.out.2.2.2.2.2.2.2.2.2.2)
    | (refine list_putI rfl _ _ _ _ rfl 3 113 Try.underlying114 Try.underlying3 rfl (HE.out.1.below (below_self _ _)) 6 rfl rfl (.slice (some ⟨wE.heap.size, 0, none⟩) 1 1) rfl ?_; intro wF hF oF; have HF : Hid (IntMap wF Y.heap.size [(1, .slice (some ⟨(Y.heap.size + 1), 0, none⟩) 1 1), (2, .slice (some ⟨wA.heap.size, 0, none⟩) 2 2), (3, .slice (some ⟨wB.heap.size, 0, none⟩) 1 1), (4, .slice (some ⟨wC.heap.size, 0, none⟩) 1 1), (5, .slice (some ⟨wD.heap.size, 0, none⟩) 1 1), (6, .slice (some ⟨wE.heap.size, 0, none⟩) 1 1)] ∧ Bk wF w.heap.size #[.int .i64 lo, .int .i64 hi] 40 ∧ Bk wF p5 #[.int .i64 lo, .int .i64 (min hi (n - 1))] 40 ∧ Bk wF p6 #[.int .i64 (max lo (n + 1)), .int .i64 hi] 40 ∧ Bk wF (Y.heap.size + 1) #[.int .i64 (max lo n), .int .i64 (min hi n)] 40 ∧ Bk wF wA.heap.size #[.int .i64 (lo), .int .i64 (min hi (n - 1)), .int .i64 (max lo (n + 1)), .int .i64 (hi)] 40 ∧ Bk wF wB.heap.size #[.int .i64 (lo), .int .i64 (min hi (n - 1))] 40 ∧ Bk wF wC.heap.size #[.int .i64 (lo), .int .i64 (min hi n)] 40 ∧ Bk wF wD.heap.size #[.int .i64 (max lo (n + 1)), .int .i64 (hi)] 40 ∧ Bk wF wE.heap.size #[.int .i64 (max lo n), .int .i64 (hi)] 40 ∧ Below Y.heap.size Y wF ∧ Y.heap.size + 2 ≤ wF.heap.size) := Lib.hid ⟨hF, (HE.out.2.1.alloc _).only oF (by omega), (HE.out.2.2.1.alloc _).only oF (by omega), (HE.out.2.2.2.1.alloc _).only oF (by omega), (HE.out.2.2.2.2.1.alloc _).only oF (by omega), (HE.out.2.2.2.2.2.1.alloc _).only oF (by omega), (HE.out.2.2.2.2.2.2.1.alloc _).only oF (by omega), (HE.out.2.2.2.2.2.2.2.1.alloc _).only oF (by omega), (HE.out.2.2.2.2.2.2.2.2.1.alloc _).only oF (by omega), (Bk.new _ _ _).only oF (by omega), ((HE.out.2.2.2.2.2.2.2.2.2.1).alloc (by omega) _).trans (oF.to_below (fun g hg => by omega) (by simp; omega)), by have := oF.size; simp at this; omega⟩; clear hF oF; replace c0 := HF.out.2.1.cell; replace c5 := HF.out.2.2.1.cell; replace c6 := HF.out.2.2.2.1.cell; replace m0 := HF.out.2.1.lt; replace m5 := HF.out.2.2.1.lt; replace m6 := HF.out.2.2.2.1.lt; have zF := HF.out.2.2.2.2.2.2.2.2.2.2.2))
  go_ret
  refine ⟨Y.heap.size, rfl, ⟨[(1, .slice (some ⟨(Y.heap.size + 1), 0, none⟩) 1 1), (2, .slice (some ⟨wA.heap.size, 0, none⟩) 2 2), (3, .slice (some ⟨wB.heap.size, 0, none⟩) 1 1), (4, .slice (some ⟨wC.heap.size, 0, none⟩) 1 1), (5, .slice (some ⟨wD.heap.size, 0, none⟩) 1 1), (6, .slice (some ⟨wE.heap.size, 0, none⟩) 1 1)], HF.out.1, fun op h1 h2 => ?_⟩, HK.out.trans (HF.out.2.2.2.2.2.2.2.2.2.2.1.mono hYw)⟩
  have h7 : op = 1 ∨ op = 2 ∨ op = 3 ∨ op = 4 ∨ op = 5 ∨ op = 6 := by omega
  rcases h7 with rfl | rfl | rfl | rfl | rfl | rfl
  · exact ⟨(Y.heap.size + 1), rfl, HF.out.2.2.2.2.1⟩
  · exact ⟨wA.heap.size, rfl, HF.out.2.2.2.2.2.1⟩
  · exact ⟨wB.heap.size, rfl, HF.out.2.2.2.2.2.2.1⟩
  · exact ⟨wC.heap.size, rfl, HF.out.2.2.2.2.2.2.2.1⟩
  · exact ⟨wD.heap.size, rfl, HF.out.2.2.2.2.2.2.2.2.1⟩
  · exact ⟨wE.heap.size, rfl, HF.out.2.2.2.2.2.2.2.2.2.1⟩
end Go.Proofs.Ytecjhniomjmocaa
