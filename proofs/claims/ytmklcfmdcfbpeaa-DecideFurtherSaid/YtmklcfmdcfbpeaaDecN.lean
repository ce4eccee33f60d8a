/- Layer 13 (decide): the law's head: the walk. -/
import Derived.Test.YtmklcfmdcfbpeaaDecM
import Derived.Test.YtmklcfmdcfbpeaaPlanI
import Derived.Test.YtmklcfmdcfbpeaaRow
namespace Go.Proofs.Ytmklcfmdcfbpeaa
open Go.RowKit
set_option linter.unusedVariables false
set_option linter.unusedSimpArgs false
attribute [local go_sem] ext_cell ext_frozen lt_ext ext_drew
attribute [local go_sem ↓] Go.wp_at_zero Go.wp_at_succ

theorem bk_add {w : World} {g t : Nat} {C : Array Value} (h : Bk w g C t) : ∀ (j : Nat) v, C.toList[j]? = some v → w.cell? ((⟨g, 0, none⟩ : Addr).add j) = some v := fun j v hv => by
  rw [Addr.add_lit, Nat.zero_add, h.cell]
  simpa using hv
theorem want_dec (a m : Int) (h : dcs (runJ (fcOf a m) exRs 5) = #[.bool true, .bool false, .bool false, .int .i64 4, .int .i64 500, .int .i64 0, .int .i64 1, .int .i64 0, .int .i64 1, .int .i64 0, .int .i64 1, .int .i64 0, .int .i64 1, .int .i64 0, .int .i64 1, .int .i64 0]) {X : World} {G z1 z2 z3 z4 : Nat} (hx : ExLies X G z1 z2 z3 z4) :
    Calls Try.prog 16 #[.agg #[.slice (some ⟨G, 0, none⟩) 5 5], .agg #[.int .i64 0, .int .i64 a, .int .i64 m, .int .i64 0, .int .i64 0, .int .i64 0, .int .i64 0, .int .i64 0, .int .i64 1, .int .i64 0]] X fun e w' => e = .returned (.agg #[.bool true, .bool false, .bool false, .int .i64 4, .int .i64 500, .int .i64 0, .int .i64 1, .int .i64 0, .int .i64 1, .int .i64 0, .int .i64 1, .int .i64 0, .int .i64 1, .int .i64 0, .int .i64 1, .int .i64 0]) ∧ Below X.heap.size X w' :=
  ex_decide (fcOf a m) _ _ h rfl rfl hx
theorem want_30_0 {X : World} {G z1 z2 z3 z4 : Nat} (hx : ExLies X G z1 z2 z3 z4) : Calls Try.prog 16 #[.agg #[.slice (some ⟨G, 0, none⟩) 5 5], .agg #[.int .i64 0, .int .i64 30, .int .i64 0, .int .i64 0, .int .i64 0, .int .i64 0, .int .i64 0, .int .i64 0, .int .i64 1, .int .i64 0]] X fun e w' => e = .returned (.agg #[.bool true, .bool false, .bool false, .int .i64 4, .int .i64 500, .int .i64 0, .int .i64 1, .int .i64 0, .int .i64 1, .int .i64 0, .int .i64 1, .int .i64 0, .int .i64 1, .int .i64 0, .int .i64 1, .int .i64 0]) ∧ Below X.heap.size X w' := want_dec 30 0 (by kernel_rfl) hx
theorem want_30_1 {X : World} {G z1 z2 z3 z4 : Nat} (hx : ExLies X G z1 z2 z3 z4) : Calls Try.prog 16 #[.agg #[.slice (some ⟨G, 0, none⟩) 5 5], .agg #[.int .i64 0, .int .i64 30, .int .i64 1, .int .i64 0, .int .i64 0, .int .i64 0, .int .i64 0, .int .i64 0, .int .i64 1, .int .i64 0]] X fun e w' => e = .returned (.agg #[.bool true, .bool false, .bool false, .int .i64 4, .int .i64 500, .int .i64 0, .int .i64 1, .int .i64 0, .int .i64 1, .int .i64 0, .int .i64 1, .int .i64 0, .int .i64 1, .int .i64 0, .int .i64 1, .int .i64 0]) ∧ Below X.heap.size X w' := want_dec 30 1 (by kernel_rfl) hx
theorem young_15_0 {X : World} {G z1 z2 z3 z4 : Nat} (hx : ExLies X G z1 z2 z3 z4) : Calls Try.prog 16 #[.agg #[.slice (some ⟨G, 0, none⟩) 5 5], .agg #[.int .i64 0, .int .i64 15, .int .i64 0, .int .i64 0, .int .i64 0, .int .i64 0, .int .i64 0, .int .i64 0, .int .i64 1, .int .i64 0]] X fun e w' => e = .returned (.agg #[.bool false, .bool false, .bool false, .int .i64 4, .int .i64 500, .int .i64 0, .int .i64 1, .int .i64 0, .int .i64 1, .int .i64 0, .int .i64 1, .int .i64 0, .int .i64 1, .int .i64 0, .int .i64 1, .int .i64 2]) ∧ Below X.heap.size X w' := ex_decide (fcOf 15 0) _ _ (by kernel_rfl) rfl rfl hx
theorem none_1_1 (X : World) : Calls Try.prog 16 #[.agg #[.slice none 0 0], .agg #[.int .i64 0, .int .i64 1, .int .i64 1, .int .i64 0, .int .i64 0, .int .i64 0, .int .i64 0, .int .i64 0, .int .i64 1, .int .i64 0]] X fun e w' => e = .returned (.agg #[.bool false, .bool false, .bool false, .int .i64 0, .int .i64 0, .int .i64 0, .int .i64 1, .int .i64 0, .int .i64 1, .int .i64 0, .int .i64 1, .int .i64 0, .int .i64 1, .int .i64 0, .int .i64 1, .int .i64 (-1)]) ∧ Below X.heap.size X w' := no_decide (fcOf 1 1) _ _ (by kernel_rfl) rfl rfl X
theorem holds_yes {X : World} {g : Nat} (kd : Int) (nm : ByteArray) (num rn rd sn sd : Int) (h : Bk X g (znV zM) 44) : Calls Try.prog 12 #[.agg #[.int .i64 kd, .string nm, .slice (some ⟨g, 0, none⟩) 1 1, .int .i64 num, .int .i64 rn, .int .i64 rd, .int .i64 sn, .int .i64 sd], .agg #[.int .i64 0, .int .i64 0, .int .i64 1, .int .i64 0, .int .i64 0, .int .i64 0, .int .i64 0, .int .i64 0, .int .i64 1, .int .i64 0]] X fun e w' => e = .returned (.bool true) ∧ Below X.heap.size X w' :=
  ex_holds (fcOf 0 1) _ true rfl rfl zM rfl zM_fits (by kernel_rfl) kd nm num rn rd sn sd h
theorem holds_no {X : World} {g : Nat} (kd : Int) (nm : ByteArray) (num rn rd sn sd : Int) (h : Bk X g (znV zM) 44) : Calls Try.prog 12 #[.agg #[.int .i64 kd, .string nm, .slice (some ⟨g, 0, none⟩) 1 1, .int .i64 num, .int .i64 rn, .int .i64 rd, .int .i64 sn, .int .i64 sd], .agg #[.int .i64 0, .int .i64 0, .int .i64 0, .int .i64 0, .int .i64 0, .int .i64 0, .int .i64 0, .int .i64 0, .int .i64 1, .int .i64 0]] X fun e w' => e = .returned (.bool false) ∧ Below X.heap.size X w' :=
  ex_holds (fcOf 0 0) _ false rfl rfl zM rfl zM_fits (by kernel_rfl) kd nm num rn rd sn sd h

set_option maxRecDepth 100000 in
set_option maxHeartbeats 8000000 in
theorem head_any (w : World) : Calls Try.prog 10 #[] w fun e w' => e = .returned (.bool true) ∧ Below w.heap.size w w' := by
  go_enter Try.func10, Try.ntmps10
  go_wp2_with fail
  refine (example_made _).mono ?_
  rintro e w1 ⟨G, z1, z2, z3, z4, rfl, hx, hb⟩
  have HB := Lib.hid (And.intro hb hx)
  have hlG := hx.row.lt
  clear hb hx
  go_upto_region 10 with (fail)
  refine forget (fun W => Below w.heap.size w W ∧ ExLies W G z1 z2 z3 z4 ∧ Bk W w1.heap.size #[.slice (some ⟨G, 0, none⟩) 5 5] 24 ∧ Bk W (w1.heap.size + 2) #[.bool true, .bool false, .bool false, .int .i64 4, .int .i64 500, .int .i64 0, .int .i64 1, .int .i64 0, .int .i64 1, .int .i64 0, .int .i64 1, .int .i64 0, .int .i64 1, .int .i64 0, .int .i64 1, .int .i64 0] 37 ∧ Bk W (w1.heap.size + 3) #[.bool false, .bool false, .bool false, .int .i64 4, .int .i64 500, .int .i64 0, .int .i64 1, .int .i64 0, .int .i64 1, .int .i64 0, .int .i64 1, .int .i64 0, .int .i64 1, .int .i64 0, .int .i64 1, .int .i64 2] 37 ∧ Bk W (w1.heap.size + 4) #[.bool false, .bool false, .bool false, .int .i64 0, .int .i64 0, .int .i64 0, .int .i64 1, .int .i64 0, .int .i64 1, .int .i64 0, .int .i64 1, .int .i64 0, .int .i64 1, .int .i64 0, .int .i64 1, .int .i64 (-1)] 37 ∧ Bk W (w1.heap.size + 5) #[.slice (some ⟨G, 32, none⟩) 1 1] 24) ⟨?_, ?_, ?_, ?_, ?_, ?_, ?_⟩ ?_
  · have h0 := HB.out.1
    (repeat (first | with_reducible exact Below.refl _ _ | with_reducible assumption | with_reducible refine Below.alloc0 ?_ _ | with_reducible refine Below.ext0 ?_ _ | with_reducible refine Below.drew ?_ | with_reducible refine below_drewN ?_ _ | (with_reducible refine Below.setCell (hp := ?hp) ?_ _; case hp => (first | (simp; done) | (simp; omega)))))
  · refine HB.out.2.below ?_
    (repeat (first | with_reducible exact Below.refl _ _ | with_reducible assumption | with_reducible refine Below.alloc0 ?_ _ | with_reducible refine Below.ext0 ?_ _ | with_reducible refine Below.drew ?_ | with_reducible refine below_drewN ?_ _ | (with_reducible refine Below.setCell (hp := ?hp) ?_ _; case hp => (first | (simp; done) | (simp; omega)))))
  · exact (((((Bk.new _ _ _).alloc _).alloc _).alloc _).alloc _).alloc _
  · exact (((bk_new_at _ _ _ _ (by simp)).alloc _).alloc _).alloc _
  · exact ((bk_new_at _ _ _ _ (by simp)).alloc _).alloc _
  · exact (bk_new_at _ _ _ _ (by simp)).alloc _
  · exact bk_new_at _ _ _ _ (by simp)
  generalize w1.heap.size = p at *
  clear HB
  rintro W ⟨hw, hx, b0, b2, b3, b4, b5⟩
  have c0 := b0.cell
  have c2 := b2.cell
  have c3 := b3.cell
  have c4 := b4.cell
  have c5 := b5.cell
  have cG : ∀ o, W.cell? ⟨G, o, none⟩ = (#[ .int .i64 1, .string ⟨#[97]⟩, .slice (some ⟨z1, 0, none⟩) 1 1, .int .i64 4, .int .i64 0, .int .i64 0, .int .i64 0, .int .i64 0, .int .i64 1, .string ⟨#[109]⟩, .slice (some ⟨z2, 0, none⟩) 1 1, .int .i64 6, .int .i64 0, .int .i64 0, .int .i64 0, .int .i64 0, .int .i64 2, .string ⟨#[107]⟩, .slice (some ⟨z3, 0, none⟩) 1 1, .int .i64 0, .int .i64 0, .int .i64 0, .int .i64 0, .int .i64 0, .int .i64 3, .string ⟨#[112]⟩, .slice (some ⟨z1, 0, none⟩) 1 1, .int .i64 500, .int .i64 0, .int .i64 1, .int .i64 0, .int .i64 1, .int .i64 3, .string ⟨#[113]⟩, .slice (some ⟨z4, 0, none⟩) 1 1, .int .i64 300, .int .i64 0, .int .i64 1, .int .i64 0, .int .i64 1] : Array Value)[o]? := hx.row.cell
  have l0 := b0.lt
  have l2 := b2.lt
  have l3 := b3.lt
  have l4 := b4.lt
  have l5 := b5.lt
  have lG := hx.row.lt
  have HX := Lib.hid (And.intro hw hx)
  clear hw hx b0 b2 b3 b4 b5 hlG
  have hE : Hid (∀ u, ExLies (ext W u) G z1 z2 z3 z4) := Lib.hid fun u => HX.out.2.below (below_ext W u)
  refine wp_region_ext W (by kernel_rfl) (by kernel_rfl) ?_
  as_aux_lemma =>
  repeat (go_big_quiet_step (first
    | (go_at_call 20; exact Calls.in_ext (facts_made _ _ _))
    | (go_at_call 16; exact Calls.in_ext (by first | with_reducible exact want_30_0 (hE.out _) | with_reducible exact want_30_1 (hE.out _) | with_reducible exact young_15_0 (hE.out _)))))
  refine wpQuiet_nil (fun v => ?_)
  go_wp2_with fail
  obtain ⟨ir, zr, i1, i2, i3, i4, i5⟩ := info_of (P := Try.prog) (e := 34) (size := 8) (bytes := 88) (c := 8) (by kernel_rfl)
  have I := Lib.hid (And.intro i1 (And.intro i2 (And.intro i3 i4)))
  clear i1 i2 i3 i4 i5
  refine region_planx W [([0, 1, 2, 5], [3, 4]), ([6, 7, 8, 9], [10]), ([11, 12, 13, 14, 15, 16, 17, 18], [19, 20]), ([21], [22]), ([23, 24, 25, 26, 27, 28, 29], [30, 31]), ([32, 33, 34, 35, 36, 37], [38, 39]), ([40, 41, 42], [])] (below_ext W _) (by kernel_rfl) (by kernel_rfl) (fun u => ?_)
  as_aux_lemma =>
  refine plan_take (fun K9 h9 => ?_)
  simp only [List.map_cons, List.map_nil, pickO, List.getD_cons_zero, List.getD_cons_succ]
  repeat (go_big_quiet_step (fail))
  refine wpQuiet_nil (h9 _ ?_)
  clear h9 K9
  refine plan_run (fun K9 h9 => ?_)
  simp only [pickO, List.getD_cons_zero, List.getD_cons_succ]
  go_wp2_with (go_at_call 20; refine (facts_made _ _ _).mono ?_; rintro e w' ⟨rfl, hbb⟩; obtain ⟨u, rfl⟩ := ext_more hbb; clear hbb)
  refine h9 _ _ mem_ext ?_
  clear h9 K9
  refine plan_run (fun K9 h9 => ?_)
  simp only [pickO, List.getD_cons_zero, List.getD_cons_succ]
  go_wp2_with (go_at_call 16; refine (none_1_1 _).mono ?_; rintro e w' ⟨rfl, hbb⟩; obtain ⟨u, rfl⟩ := ext_more hbb; clear hbb)
  refine h9 _ _ mem_ext ?_
  clear h9 K9
  refine plan_next ?_
  as_aux_lemma =>
  refine plan_take (fun K9 h9 => ?_)
  simp only [List.map_cons, List.map_nil, pickO, List.getD_cons_zero, List.getD_cons_succ]
  repeat (go_big_quiet_step (fail))
  refine wpQuiet_nil (h9 _ ?_)
  clear h9 K9
  refine plan_run (fun K9 h9 => ?_)
  simp only [pickO, List.getD_cons_zero, List.getD_cons_succ]
  go_wp2_with (go_at_call 14; refine (ex_valid (hE.out _)).mono ?_; rintro e w' ⟨rfl, hbb⟩; obtain ⟨u, rfl⟩ := ext_more hbb; clear hbb)
  refine h9 _ _ mem_ext ?_
  clear h9 K9
  refine plan_next ?_
  as_aux_lemma =>
  refine plan_take (fun K9 h9 => ?_)
  simp only [List.map_cons, List.map_nil, pickO, List.getD_cons_zero, List.getD_cons_succ]
  repeat (go_big_quiet_step (fail))
  refine wpQuiet_nil (h9 _ ?_)
  clear h9 K9
  refine plan_run (fun K9 h9 => ?_)
  simp only [pickO, List.getD_cons_zero, List.getD_cons_succ]
  refine list_lit1w (by rfl) _ 34 _ (by rfl) (r1C z1).toArray (by rfl) Try.underlying22 (by kernel_rfl) (by show 0 < 8; decide) (by show 8 ≤ 2 ^ 24; decide) (by kernel_rfl) ?_
  show K9 _ _
  go_simp
  refine h9 _ _ (mem_ext_alloc (X := W)) ?_
  clear h9 K9
  refine plan_run (fun K9 h9 => ?_)
  simp only [pickO, List.getD_cons_zero, List.getD_cons_succ]
  go_wp2_with (refine list_append_full (o := ⟨some 69, _, _, _, _, _⟩) (by rfl) _ _ _ (by rfl) 34 ir zr 8 88 Try.underlying22 I.out.1 I.out.2.1 I.out.2.2.1 (I.out.2.2.2) (⟨G, 0, none⟩ : Addr) 5 (exV z1 z2 z3 z4).toList (by rfl) (by rfl) (bk_add ((hE.out _).row.alloc _)) (⟨_, 0, none⟩ : Addr) 1 1 (r1C z1) (by rfl) (by rfl) (bk_add (C := (r1C z1).toArray) (Bk.new _ _ _)) (by decide) (by decide) (by decide) 6 rfl ?_; intro g6 c6 w6 hg1 hg2 hbb hc6; obtain ⟨v6, rfl⟩ := ext_more_alloc hbb; clear hbb hg1)
  have HG := Lib.hid (And.intro hg2 hc6)
  clear hg2 hc6
  go_simp
  refine h9 _ _ mem_ext ?_
  clear h9 K9
  refine plan_next ?_
  as_aux_lemma =>
  refine plan_take (fun K9 h9 => ?_)
  simp only [List.map_cons, List.map_nil, pickO, List.getD_cons_zero, List.getD_cons_succ]
  repeat (go_big_quiet_step (fail))
  refine wpQuiet_nil (h9 _ ?_)
  clear h9 K9
  refine plan_run (fun K9 h9 => ?_)
  simp only [pickO, List.getD_cons_zero, List.getD_cons_succ]
  go_wp2_with (go_at_call 14; refine (ex_valid6 (hE.out _) HG.out.1 HG.out.2).mono ?_; rintro e w' ⟨rfl, hbb⟩; clear HG; obtain ⟨u, rfl⟩ := ext_more hbb; clear hbb)
  refine h9 _ _ mem_ext ?_
  clear h9 K9
  refine plan_next ?_
  as_aux_lemma =>
  refine plan_take (fun K9 h9 => ?_)
  simp only [List.map_cons, List.map_nil, pickO, List.getD_cons_zero, List.getD_cons_succ]
  repeat (go_big_quiet_step (fail))
  refine wpQuiet_nil (h9 _ ?_)
  clear h9 K9
  refine plan_run (fun K9 h9 => ?_)
  simp only [pickO, List.getD_cons_zero, List.getD_cons_succ]
  go_wp2_with (go_at_call 20; refine (facts_made _ _ _).mono ?_; rintro e w' ⟨rfl, hbb⟩; obtain ⟨u, rfl⟩ := ext_more hbb; clear hbb)
  refine h9 _ _ mem_ext ?_
  clear h9 K9
  refine plan_run (fun K9 h9 => ?_)
  simp only [pickO, List.getD_cons_zero, List.getD_cons_succ]
  go_wp2_with (go_at_call 12; refine (holds_yes _ _ _ _ _ _ _ (hE.out _).zb).mono ?_; rintro e w' ⟨rfl, hbb⟩; obtain ⟨u, rfl⟩ := ext_more hbb; clear hbb)
  refine h9 _ _ mem_ext ?_
  clear h9 K9
  refine plan_next ?_
  as_aux_lemma =>
  refine plan_take (fun K9 h9 => ?_)
  simp only [List.map_cons, List.map_nil, pickO, List.getD_cons_zero, List.getD_cons_succ]
  repeat (go_big_quiet_step (fail))
  refine wpQuiet_nil (h9 _ ?_)
  clear h9 K9
  refine plan_run (fun K9 h9 => ?_)
  simp only [pickO, List.getD_cons_zero, List.getD_cons_succ]
  go_wp2_with (go_at_call 20; refine (facts_made _ _ _).mono ?_; rintro e w' ⟨rfl, hbb⟩; obtain ⟨u, rfl⟩ := ext_more hbb; clear hbb)
  refine h9 _ _ mem_ext ?_
  clear h9 K9
  refine plan_run (fun K9 h9 => ?_)
  simp only [pickO, List.getD_cons_zero, List.getD_cons_succ]
  go_wp2_with (go_at_call 12; refine (holds_no _ _ _ _ _ _ _ (hE.out _).zd).mono ?_; rintro e w' ⟨rfl, hbb⟩; obtain ⟨u, rfl⟩ := ext_more hbb; clear hbb)
  refine h9 _ _ mem_ext ?_
  clear h9 K9
  refine plan_next ?_
  as_aux_lemma =>
  refine plan_take (fun K9 h9 => ?_)
  simp only [List.map_cons, List.map_nil, pickO, List.getD_cons_zero, List.getD_cons_succ]
  repeat (go_big_quiet_step (fail))
  refine wpQuiet_nil (h9 _ ?_)
  clear h9 K9
  refine plan_next ?_
  refine plan_end ?_
  go_wp2_with fail
  go_ret
  exact ⟨rfl, by have hw := HX.out.1; (repeat (first | with_reducible exact Below.refl _ _ | with_reducible assumption | with_reducible refine Below.alloc0 ?_ _ | with_reducible refine Below.ext0 ?_ _ | with_reducible refine Below.drew ?_ | with_reducible refine below_drewN ?_ _ | (with_reducible refine Below.setCell (hp := ?hp) ?_ _; case hp => (first | (simp; done) | (simp; omega)))))⟩
end Go.Proofs.Ytmklcfmdcfbpeaa
