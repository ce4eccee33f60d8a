/- Layer 9 (sight): points and rectangles out of raw numbers. -/
import Derived.Test.YtbphalaajhnnjaaSightL
import Derived.Test.YtbphalaajhnnjaaSightP
import Derived.Test.YtbphalaajhnnjaaWild
import Derived.Deep.Cut
namespace Go.Proofs.Ytbphalaajhnnjaa
open Go.RowKit
set_option linter.unusedVariables false
attribute [local go_sem] ext_cell ext_frozen lt_ext ext_drew

set_option maxHeartbeats 400000 in
theorem coordinate_any (n : Int) (w : World) (h0 : 0 ≤ n) (h1 : n ≤ 65535) : Calls Try.prog 16 #[.int .u16 n] w fun e w' => e = .returned (.int .i64 (n % 10001)) ∧ w = w' := by
  go_enter Try.func16, Try.ntmps16
  go_wp2
  go_ret
  exact ⟨rfl, rfl⟩

theorem co_mod (n : Int) : co (n % 10001) := by unfold co; omega
theorem co_fits {n : Int} (h : co n) : fits n := by unfold co at h; unfold fits; omega
theorem co_eight {a b c d e f g h : Int} (h1 : co a) (h2 : co b) (h3 : co c) (h4 : co d) (h5 : co e) (h6 : co f) (h7 : co g) (h8 : co h) : Hid (∀ z ∈ [a, b, c, d, e, f, g, h], fits z) := by
  intro z hz
  simp only [List.mem_cons, List.not_mem_nil, or_false] at hz
  rcases hz with rfl | rfl | rfl | rfl | rfl | rfl | rfl | rfl <;> exact co_fits ‹_›

set_option maxRecDepth 100000 in
set_option maxHeartbeats 2000000 in
theorem symmetric_walk (n0 n1 n2 n3 n4 n5 n6 n7 : Int) (w : World) (h0 : 0 ≤ n0 ∧ n0 ≤ 65535) (h1 : 0 ≤ n1 ∧ n1 ≤ 65535) (h2 : 0 ≤ n2 ∧ n2 ≤ 65535) (h3 : 0 ≤ n3 ∧ n3 ≤ 65535) (h4 : 0 ≤ n4 ∧ n4 ≤ 65535) (h5 : 0 ≤ n5 ∧ n5 ≤ 65535) (h6 : 0 ≤ n6 ∧ n6 ≤ 65535) (h7 : 0 ≤ n7 ∧ n7 ≤ 65535) :
    Calls Try.prog 4 #[.agg #[.int .u16 n0, .int .u16 n1, .int .u16 n2, .int .u16 n3, .int .u16 n4, .int .u16 n5, .int .u16 n6, .int .u16 n7]] w
      fun e w' => e = .returned (.bool true) ∧ Below w.heap.size w w' := by
  go_enter Try.func4, Try.ntmps4
  go_wp2_with fail
  refine (head_any _).mono ?_
  rintro e w1 ⟨rfl, hb⟩
  have bA := (Bk.new w #[.int .u16 n0, .int .u16 n1, .int .u16 n2, .int .u16 n3, .int .u16 n4, .int .u16 n5, .int .u16 n6, .int .u16 n7] 35).below hb
  have hw := ((Below.refl _ w).alloc (Nat.le_refl _) _).trans (hb.mono (by simp))
  have cA := bA.cell
  have lA := bA.lt
  clear hb
  go_wp2_with fail
  refine region_wild w1 16 105 [14, 15] (fun _ => NewVar w1.heap.size (.cells #[.int .i64 0, .int .i64 0] 23)) (Below.refl _ _) (by kernel_rfl) (by kernel_rfl) rfl (fun _ _ _ _ h hb => h.keep hb) ?_
  apply Exists.intro
  refine ⟨?_, ?_, ?_⟩
  · intro X hX
    obtain ⟨v, rfl⟩ := ext_of hX
    clear hX
    simp only [List.take_succ_cons, List.take_zero]
    simp [muteAt, mute]
    repeat (go_big_quiet_step (first
      | (go_at_call 16; exact Calls.in_ext_same (coordinate_any _ _ (by omega) (by omega)))
      | (go_at_call 15; exact Calls.in_ext (point_any _ _ _))))
    exact wpQuiet_nil rfl
  · intro w2 hw2 j hj o ho
    simp only [List.mem_cons, List.not_mem_nil, or_false] at hj
    rcases hj with rfl | rfl
    all_goals
      simp only [List.getElem?_cons_succ, List.getElem?_cons_zero, Option.some.injEq] at ho
      subst ho
      refine wild_alloc hw2.size ?_
      go_simp
  · intro xs w2 hb hR hne hlt
    obtain ⟨b4, e4, g4, k4⟩ := hR 14 (by simp)
    obtain ⟨b5, e5, g5, k5⟩ := hR 15 (by simp)
    have hd := hne 14 (by simp) 15 (by simp) (by simp) b4 (by rw [e4]; rfl)
    rw [e5] at hd
    have hd' : b4 ≠ b5 := fun e => hd (by rw [e]; rfl)
    clear hne hd hR hlt
    have b4k : Bk w2 b4 _ _ := k4
    have b5k : Bk w2 b5 _ _ := k5
    have c4 := b4k.cell
    have f4 := b4k.free
    have c5 := b5k.cell
    have f5 := b5k.free
    clear k4 k5 cA lA
    simp only [putAll, List.getElem?_toArray, List.getElem?_cons_succ, List.getElem?_cons_zero, Option.bind_some, Act.put, e4, e5, List.setIfInBounds_toArray, List.set_cons_succ, List.set_cons_zero, List.drop_succ_cons, List.drop_zero]
    clear e4 e5
    go_wp2_with fail
    refine forget (fun W => Below w.heap.size w W ∧ Bk W w.heap.size #[.int .u16 n0, .int .u16 n1, .int .u16 n2, .int .u16 n3, .int .u16 n4, .int .u16 n5, .int .u16 n6, .int .u16 n7] 35 ∧ Bk W b4 #[.int .i64 (n0 % 10001), .int .i64 (n1 % 10001)] 23 ∧ Bk W b5 #[.int .i64 (n2 % 10001), .int .i64 (n3 % 10001)] 23)
      ⟨?_, ?_, ?_, ?_⟩ ?_
    · exact ((((hw.trans (hb.mono hw.size)).setCell (by simp; have := hw.size; omega) _).setCell (by simp; have := hw.size; omega) _).setCell (by simp; have := hw.size; omega) _).setCell (by simp; have := hw.size; omega) _
    · exact ((((bA.below hb).far (by simp; have := bA.lt; omega) _).far (by simp; have := bA.lt; omega) _).far (by simp; have := bA.lt; omega) _).far (by simp; have := bA.lt; omega) _
    · exact (((b4k.set_ 0 _).set_ 1 _).far (by simpa using hd') _).far (by simpa using hd') _
    · exact (((b5k.far (by simpa using hd'.symm) _).far (by simpa using hd'.symm) _).set_ 0 _).set_ 1 _
    · clear c4 f4 c5 f5 b4k b5k bA hw hb g4 g5 w1 w2
      rintro w3 ⟨hw, bA, b4k, b5k⟩
      have cA := bA.cell
      have lA := bA.lt
      have c4 := b4k.cell
      have l4 := b4k.lt
      have c5 := b5k.cell
      have l5 := b5k.lt
      clear b4k b5k bA
      refine region_wild w3 14 105 [13] (fun _ => NewVar w3.heap.size (.cells #[.int .i64 0, .int .i64 0, .int .i64 0, .int .i64 0] 25)) (Below.refl _ _) (by kernel_rfl) (by kernel_rfl) rfl (fun _ _ _ _ h hb => h.keep hb) ?_
      apply Exists.intro
      refine ⟨?_, ?_, ?_⟩
      · intro X hX
        obtain ⟨v, rfl⟩ := ext_of hX
        clear hX
        simp only [List.take_succ_cons, List.take_zero]
        simp [muteAt, mute]
        repeat (go_big_quiet_step (first
          | (go_at_call 16; exact Calls.in_ext_same (coordinate_any _ _ (by omega) (by omega)))
          | (go_at_call 17; exact Calls.in_ext (box_any _ _ _ _ _))))
        exact wpQuiet_nil rfl
      · intro w4 hw4 j hj o ho
        simp only [List.mem_cons, List.not_mem_nil, or_false] at hj
        subst hj
        simp only [List.getElem?_cons_succ, List.getElem?_cons_zero, Option.some.injEq] at ho
        subst ho
        refine wild_alloc hw4.size ?_
        go_simp
      · intro xs w4 hb hR _ _
        obtain ⟨b6, e6, g6, k6⟩ := hR 13 (by simp)
        clear hR
        have b6k : Bk w4 b6 _ _ := k6
        have c6 := b6k.cell
        have f6 := b6k.free
        clear k6
        simp only [putAll, List.getElem?_toArray, List.getElem?_cons_succ, List.getElem?_cons_zero, Option.bind_some, Act.put, e6, List.setIfInBounds_toArray, List.set_cons_succ, List.set_cons_zero, List.drop_succ_cons, List.drop_zero]
        clear e6
        have q4 : Two w3 b4 (n0 % 10001) (n1 % 10001) := ⟨l4, c4 0, c4 1⟩
        have q5 : Two w3 b5 (n2 % 10001) (n3 % 10001) := ⟨l5, c5 0, c5 1⟩
        clear cA c4 c5
        go_upto_region 4 with (fail)
        refine forget (fun W => Below w.heap.size w W ∧ Two W b4 (n0 % 10001) (n1 % 10001) ∧ Two W b5 (n2 % 10001) (n3 % 10001) ∧ Bk W b6 #[.int .i64 (n4 % 10001), .int .i64 (n5 % 10001), .int .i64 (n6 % 10001), .int .i64 (n7 % 10001)] 25)
          ⟨?_, ?_, ?_, ?_⟩ ?_
        · exact ((((hw.trans (hb.mono hw.size)).setCell (by simp; have := hw.size; omega) _).setCell (by simp; have := hw.size; omega) _).setCell (by simp; have := hw.size; omega) _).setCell (by simp; have := hw.size; omega) _
        · exact q4.below ((((hb.setCell (by simpa using g6) _).setCell (by simpa using g6) _).setCell (by simpa using g6) _).setCell (by simpa using g6) _) l4
        · exact q5.below ((((hb.setCell (by simpa using g6) _).setCell (by simpa using g6) _).setCell (by simpa using g6) _).setCell (by simpa using g6) _) l5
        · exact (((b6k.set_ 0 _).set_ 1 _).set_ 2 _).set_ 3 _
        · clear c6 f6 b6k hw hb g6 q4 q5 l4 l5 lA
          have k0 := co_mod n0
          have k1 := co_mod n1
          have k2 := co_mod n2
          have k3 := co_mod n3
          have k4 := co_mod n4
          have k5 := co_mod n5
          have k6 := co_mod n6
          have k7 := co_mod n7
          generalize n0 % 10001 = ax at *
          generalize n1 % 10001 = ay at *
          generalize n2 % 10001 = bx at *
          generalize n3 % 10001 = b_y at *
          generalize n4 % 10001 = x at *
          generalize n5 % 10001 = y at *
          generalize n6 % 10001 = x2 at *
          generalize n7 % 10001 = y2 at *
          obtain ⟨k0, k0'⟩ := k0
          obtain ⟨k1, k1'⟩ := k1
          obtain ⟨k2, k2'⟩ := k2
          obtain ⟨k3, k3'⟩ := k3
          obtain ⟨k4, k4'⟩ := k4
          obtain ⟨k5, k5'⟩ := k5
          obtain ⟨k6, k6'⟩ := k6
          obtain ⟨k7, k7'⟩ := k7
          obtain ⟨r, hr⟩ : ∃ r, crossB ax ay bx b_y x y x2 y2 = r := ⟨_, rfl⟩
          have Hr := Lib.hid hr
          have Hs : Hid (crossB bx b_y ax ay x y x2 y2 = r) := (crossB_congr ⟨k0, k0'⟩ ⟨k1, k1'⟩ ⟨k2, k2'⟩ ⟨k3, k3'⟩ ⟨k4, k4'⟩ ⟨k5, k5'⟩ ⟨k6, k6'⟩ ⟨k7, k7'⟩ ⟨k2, k2'⟩ ⟨k3, k3'⟩ ⟨k0, k0'⟩ ⟨k1, k1'⟩ ⟨k4, k4'⟩ ⟨k5, k5'⟩ ⟨k6, k6'⟩ ⟨k7, k7'⟩ (cross_swap ..)).trans hr
          have Ht : Hid (crossB ay ax b_y bx y x y2 x2 = r) := (crossB_congr ⟨k0, k0'⟩ ⟨k1, k1'⟩ ⟨k2, k2'⟩ ⟨k3, k3'⟩ ⟨k4, k4'⟩ ⟨k5, k5'⟩ ⟨k6, k6'⟩ ⟨k7, k7'⟩ ⟨k1, k1'⟩ ⟨k0, k0'⟩ ⟨k3, k3'⟩ ⟨k2, k2'⟩ ⟨k5, k5'⟩ ⟨k4, k4'⟩ ⟨k7, k7'⟩ ⟨k6, k6'⟩ (cross_turn ..)).trans hr
          have Hm : Hid (crossB (10000 - ax) ay (10000 - bx) b_y (10000 - x2) y (10000 - x) y2 = r) := (crossB_congr ⟨k0, k0'⟩ ⟨k1, k1'⟩ ⟨k2, k2'⟩ ⟨k3, k3'⟩ ⟨k4, k4'⟩ ⟨k5, k5'⟩ ⟨k6, k6'⟩ ⟨k7, k7'⟩ ⟨by omega, by omega⟩ ⟨k1, k1'⟩ ⟨by omega, by omega⟩ ⟨k3, k3'⟩ ⟨by omega, by omega⟩ ⟨k5, k5'⟩ ⟨by omega, by omega⟩ ⟨k7, k7'⟩ (cross_mirror ..)).trans hr
          clear hr h0 h1 h2 h3 h4 h5 h6 h7
          have z1 := co_eight (a := ax) (b := ay) (c := bx) (d := b_y) (e := x) (f := y) (g := x2) (h := y2) ⟨k0, k0'⟩ ⟨k1, k1'⟩ ⟨k2, k2'⟩ ⟨k3, k3'⟩ ⟨k4, k4'⟩ ⟨k5, k5'⟩ ⟨k6, k6'⟩ ⟨k7, k7'⟩
          have z2 := co_eight (a := bx) (b := b_y) (c := ax) (d := ay) (e := x) (f := y) (g := x2) (h := y2) ⟨k2, k2'⟩ ⟨k3, k3'⟩ ⟨k0, k0'⟩ ⟨k1, k1'⟩ ⟨k4, k4'⟩ ⟨k5, k5'⟩ ⟨k6, k6'⟩ ⟨k7, k7'⟩
          have z3 := co_eight (a := ay) (b := ax) (c := b_y) (d := bx) (e := y) (f := x) (g := y2) (h := x2) ⟨k1, k1'⟩ ⟨k0, k0'⟩ ⟨k3, k3'⟩ ⟨k2, k2'⟩ ⟨k5, k5'⟩ ⟨k4, k4'⟩ ⟨k7, k7'⟩ ⟨k6, k6'⟩
          have z4 := co_eight (a := 10000 - ax) (b := ay) (c := 10000 - bx) (d := b_y) (e := 10000 - x2) (f := y) (g := 10000 - x) (h := y2) ⟨by omega, by omega⟩ ⟨k1, k1'⟩ ⟨by omega, by omega⟩ ⟨k3, k3'⟩ ⟨by omega, by omega⟩ ⟨k5, k5'⟩ ⟨by omega, by omega⟩ ⟨k7, k7'⟩
          rintro w5 ⟨hw, ⟨l4, p4, p4'⟩, ⟨l5, p5, p5'⟩, b6k⟩
          have c6 := b6k.cell
          have l6 := b6k.lt
          clear b6k
          go_wp2_with fail
          refine (crosses_any r ax ay bx b_y x y x2 y2 _ z1 Hr).mono ?_
          rintro e w6 ⟨rfl, hb⟩
          obtain ⟨u, rfl⟩ := ext_of hb
          clear hb
          go_wp2_with fail
          refine wp_region_more _ _ (by kernel_rfl) (by kernel_rfl) ?_
          repeat (go_big_quiet_step (first
            | (go_at_call 15; exact Calls.in_ext (point_any _ _ _))
            | (go_at_call 17; exact Calls.in_ext (box_any _ _ _ _ _))
            | (go_at_call 11; exact crosses_in r _ _ _ _ _ _ _ _ _ _ z3 Ht)))
          refine wpQuiet_nil (fun v => ?_)
          go_wp2_with fail
          refine wp_region_more _ _ (by kernel_rfl) (by kernel_rfl) ?_
          repeat (go_big_quiet_step (first
            | (go_at_call 15; exact Calls.in_ext (point_any _ _ _))
            | (go_at_call 17; exact Calls.in_ext (box_any _ _ _ _ _))
            | (go_at_call 11; exact crosses_in r _ _ _ _ _ _ _ _ _ _ z4 Hm)))
          refine wpQuiet_nil (fun v => ?_)
          go_wp2_with fail
          refine (crosses_any r bx b_y ax ay x y x2 y2 _ z2 Hs).mono ?_
          rintro e w6 ⟨rfl, hb⟩
          obtain ⟨u, rfl⟩ := ext_more hb
          clear hb
          go_wp2_with fail
          go_ret
          exact ⟨rfl, ext_below hw hw.size _⟩
end Go.Proofs.Ytbphalaajhnnjaa
