/- Layer 17 (price): the examples, as every statement's head has them. -/
import Derived.Test.YtdacfopdalgkaaaPriceK
namespace Go.Proofs.Ytdacfopdalgkaaa
open Go.RowKit
set_option linter.unusedVariables false
set_option linter.unusedSimpArgs false
attribute [local go_sem] ext_cell ext_frozen lt_ext ext_drew

set_option maxRecDepth 100000 in
set_option maxHeartbeats 2000000 in
theorem head_any (w : World) : Calls Try.prog 9 #[] w fun e w' => e = .returned (.bool true) ∧ Below w.heap.size w w' := by
  go_enter Try.func9, Try.ntmps9
  go_wp2_with (go_at_call 17; refine (ratio_any _ _ _).mono ?_; rintro e w' ⟨rfl, hb⟩; (first | (obtain ⟨u, rfl⟩ := ext_more hb; clear hb) | (obtain ⟨u, rfl⟩ := ext_more_alloc hb; clear hb) | (obtain ⟨u, rfl⟩ := ext_of hb; clear hb)))
  refine (quote_ex1 _).mono ?_
  rintro e w2 ⟨A, cap, rfl, hE, hF, hb⟩
  have bD := (Bk.new (ext w u) #[.bool true, .bool false, .bool false, .int .i64 0, .int .i64 1050, .int .i64 1, .int .i64 10, .int .i64 7, .int .i64 100, .int .i64 0, .int .i64 0, .int .i64 0, .int .i64 0, .int .i64 0, .int .i64 0, .int .i64 0] 25).below hb
  have hw2 : Below w.heap.size w w2 := Below.trans0 (Below.alloc0 (below_ext w u) _) hb
  have hd := size_ext w u
  have hF2 : Fresh ((ext w u).heap.size + 1) A := by have h := hF; simpa using h
  clear hb hF
  generalize (ext w u).heap.size = d at *
  have HE := Lib.hid hE
  have HD := Lib.hid bD
  clear hE bD
  go_wp2_with fail
  refine forget (fun W => Below w.heap.size w W ∧ Bk W d #[.bool true, .bool false, .bool false, .int .i64 0, .int .i64 1050, .int .i64 1, .int .i64 10, .int .i64 7, .int .i64 100, .int .i64 0, .int .i64 0, .int .i64 0, .int .i64 0, .int .i64 0, .int .i64 0, .int .i64 0] 25 ∧ Bk W w2.heap.size #[.slice A 3 cap, .int .i64 2472] 28 ∧ Elems tLine W W.heap.size A exQ) ⟨?_, ?_, ?_, ?_⟩ ?_
  · (repeat (first | with_reducible exact Below.refl _ _ | with_reducible assumption | with_reducible refine Below.alloc0 ?_ _ | with_reducible refine Below.ext0 ?_ _ | with_reducible refine Below.drew ?_ | with_reducible refine below_drewN ?_ _ | (with_reducible refine Below.setCell (hp := ?hp) ?_ _; case hp => (first | (simp; done) | (simp; omega)))))
  · exact HD.out.alloc _
  · exact Bk.new _ _ _
  · exact HE.out.keep (below_self _ _) (by simp)
  have hbb : d < w2.heap.size := HD.out.lt
  generalize w2.heap.size = b at *
  clear HE HD hw2 w2
  rintro W ⟨hw, bD, bB, hE⟩
  have HE := Lib.hid hE
  clear hE
  have cB := bB.cell
  have lB := bB.lt
  have HW := Lib.hid (And.intro hw (And.intro bD bB))
  clear hw bD bB
  refine wp_region_ext _ (by kernel_rfl) (by kernel_rfl) ?_
  repeat (go_big_quiet_step (first
    | (go_at_call 17; exact Calls.in_ext (ratio_any _ _ _))
    | (go_at_call 12; exact Calls.in_ext (back_ex A cap _ W.heap.size (Lib.hid (HE.out.ext (Nat.le_refl _) _)) (size_ext _ _)))))
  refine wpQuiet_nil (fun v => ?_)
  go_wp2_with fail
  refine wp_region_more _ _ (by kernel_rfl) (by kernel_rfl) ?_
  repeat (go_big_quiet_step (first
    | (go_at_call 17; exact Calls.in_ext (ratio_any _ _ _))
    | (go_at_call 14; exact Calls.in_ext (top_ex A cap _ W.heap.size (Lib.hid (HE.out.ext (Nat.le_refl _) _)) (size_ext _ _)))))
  refine wpQuiet_nil (fun v2 => ?_)
  refine forget_then (fun X => Below w.heap.size w X ∧ Bk X d #[.bool true, .bool false, .bool false, .int .i64 0, .int .i64 1050, .int .i64 1, .int .i64 10, .int .i64 7, .int .i64 100, .int .i64 0, .int .i64 0, .int .i64 0, .int .i64 0, .int .i64 0, .int .i64 0, .int .i64 0] 25 ∧ Bk X b #[.slice A 3 cap, .int .i64 2472] 28 ∧ Elems tLine X X.heap.size A exQ) ⟨?_, ?_, ?_, ?_⟩ ?_
  · have hw := HW.out.1; (repeat (first | with_reducible exact Below.refl _ _ | with_reducible assumption | with_reducible refine Below.alloc0 ?_ _ | with_reducible refine Below.ext0 ?_ _ | with_reducible refine Below.drew ?_ | with_reducible refine below_drewN ?_ _ | (with_reducible refine Below.setCell (hp := ?hp) ?_ _; case hp => (first | (simp; done) | (simp; omega)))))
  · exact HW.out.2.1.ext _
  · exact HW.out.2.2.ext _
  · exact HE.out.keep (below_ext _ _) (size_ext _ _)
  clear HE HW cB lB W
  rintro W ⟨hw, bD, bB, hE⟩
  have cD := bD.cell
  have fD := bD.free
  have lD := bD.lt
  have HE := Lib.hid hE
  have HW := Lib.hid (And.intro hw (And.intro bD bB))
  clear hE hw bD bB
  go_wp2_with fail
  refine (quote_ex2 _).mono ?_
  rintro e w2 ⟨A2, cap2, rfl, hb⟩
  have hset : Only (fun g => g = d) W (W.setCell ⟨d, 0, none⟩ (.bool false)) := (Only.refl (fun g => g = d) W).set_ (p := ⟨d, 0, none⟩) (.inl rfl) _
  have bD : Bk w2 d #[.bool false, .bool false, .bool false, .int .i64 0, .int .i64 1050, .int .i64 1, .int .i64 10, .int .i64 7, .int .i64 100, .int .i64 0, .int .i64 0, .int .i64 0, .int .i64 0, .int .i64 0, .int .i64 0, .int .i64 0] 25 := (HW.out.2.1.set_ 0 (.bool false)).below hb
  have bB : Bk w2 b #[.slice A 3 cap, .int .i64 2472] 28 := (HW.out.2.2.only hset (by omega)).below hb
  have hw2 : Below w.heap.size w w2 := Below.trans0 (HW.out.1.trans (hset.to_below (by intro g h; omega) HW.out.1.size)) hb
  have hE2 : Elems tLine w2 w2.heap.size A exQ := (HE.out.only (flat_pair flat_int flat_int) hset (Nat.le_refl _) (fun g off h e => by have := hF2 g off _ h; omega)).keep (hb.mono (by simp [World.setCell])) (by have := hb.size; simpa [World.setCell] using this)
  clear hset hb HE HW cD fD lD
  have HE := Lib.hid hE2
  have HW := Lib.hid (And.intro hw2 (And.intro bD bB))
  have cD := bD.cell
  have lD := bD.lt
  clear hE2 hw2 bD bB
  go_wp2_with fail
  have bC := Bk.new w2 #[.slice A2 0 cap2, .int .i64 0] 28
  refine (quote_ex3 _).mono ?_
  rintro e w3 ⟨A3, cap3, rfl, hb⟩
  have hb2 : Below w2.heap.size w2 w3 := Below.trans0 (below_self _ _) hb
  have HC := Lib.hid (bC.below hb)
  clear hb bC
  have HE3 := Lib.hid (HE.out.keep hb2 hb2.size)
  have HW3 := Lib.hid (And.intro (Below.trans0 HW.out.1 hb2) (HW.out.2.2.below hb2))
  clear hb2 HE HW cD lD
  generalize w2.heap.size = c at *
  go_upto_region 9 with (fail)
  refine forget (fun X => Below w.heap.size w X ∧ Bk X b #[.slice A 3 cap, .int .i64 2472] 28 ∧ Bk X c #[.slice A2 0 cap2, .int .i64 0] 28 ∧ Bk X (w3.heap.size + 1 + 1) #[.slice (some ⟨w3.heap.size + 1, 0, none⟩) 3 3, .int .i64 2472] 28 ∧
    Elems tLine X X.heap.size A exQ ∧ Elems tLine X X.heap.size (some ⟨w3.heap.size + 1, 0, none⟩) exQ) ⟨?_, ?_, ?_, ?_, ?_, ?_⟩ ?_
  · have hw := HW3.out.1; (repeat (first | with_reducible exact Below.refl _ _ | with_reducible assumption | with_reducible refine Below.alloc0 ?_ _ | with_reducible refine Below.ext0 ?_ _ | with_reducible refine Below.drew ?_ | with_reducible refine below_drewN ?_ _ | (with_reducible refine Below.setCell (hp := ?hp) ?_ _; case hp => (first | (simp; done) | (simp; omega)))))
  · exact ((HW3.out.2.alloc _).alloc _).alloc _
  · exact ((HC.out.alloc _).alloc _).alloc _
  · exact bk_new_at _ _ _ _ (by simp)
  · exact HE3.out.keep (Below.alloc0 (Below.alloc0 (below_self _ _) _) _) (by simp; omega)
  · have h : Bk (w3.alloc (.cells #[.slice A3 0 cap3, .int .i64 0] 28)) w3.heap.size _ _ := Bk.new _ _ _
    exact Elems.of_block (T := tLine) [[.int .i64 1, .int .i64 2100], [.int .i64 2, .int .i64 210], [.int .i64 3, .int .i64 162]] ((bk_next w3 (.cells #[.slice A3 0 cap3, .int .i64 0] 28) _ _).alloc _) (by simp) rfl (by
      intro i hi
      have h3 : i = 0 ∨ i = 1 ∨ i = 2 := by simp [exQ] at hi; omega
      rcases h3 with rfl | rfl | rfl <;> exact tPair_mk (c1 := [.int .i64 _]) (c2 := [.int .i64 _]) ⟨rfl, by simp [exQ]⟩ ⟨rfl, by simp [exQ]⟩) rfl
  generalize w3.heap.size + 1 + 1 = e1
  generalize w3.heap.size + 1 = e2
  clear HE3 HW3 HC
  rintro X ⟨hw, b1, b2, b3, hE1, hE2⟩
  have HE1 := Lib.hid hE1
  have HE2 := Lib.hid hE2
  have HW := Lib.hid hw
  have c1 := b1.cell
  have l1 := b1.lt
  have c2 := b2.cell
  have l2 := b2.lt
  have c3 := b3.cell
  have l3 := b3.lt
  clear hE1 hE2 hw b1 b2 b3
  go_wp2_with fail
  refine (same_yes A (some ⟨e2, 0, none⟩) exQ cap 3 3 2472 _ _ HE1.out HE2.out (Nat.le_refl _) rfl (by omega)).mono ?_
  rintro e w' ⟨rfl, hb⟩
  obtain ⟨u3, rfl⟩ := ext_of hb
  clear hb
  go_wp2_with fail
  refine (same_yes A2 none [] cap2 0 0 0 _ _ Elems.nil Elems.nil (Nat.le_refl _) rfl (by omega)).mono ?_
  rintro e w' ⟨rfl, hb⟩
  obtain ⟨u4, rfl⟩ := ext_more hb
  clear hb
  go_wp2_with fail
  go_ret
  exact ⟨rfl, by have hw := HW.out; (repeat (first | with_reducible exact Below.refl _ _ | with_reducible assumption | with_reducible refine Below.alloc0 ?_ _ | with_reducible refine Below.ext0 ?_ _ | with_reducible refine Below.drew ?_ | with_reducible refine below_drewN ?_ _ | (with_reducible refine Below.setCell (hp := ?hp) ?_ _; case hp => (first | (simp; done) | (simp; omega)))))⟩
end Go.Proofs.Ytdacfopdalgkaaa
