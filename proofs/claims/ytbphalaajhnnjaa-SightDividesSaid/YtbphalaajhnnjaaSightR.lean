/- SightContains: a larger rectangle is crossed too; an end or the middle in the rectangle crosses it; a line on one side does not; for every numbers; no condition. -/
import Derived.Test.YtbphalaajhnnjaaSightO
import Derived.Test.YtbphalaajhnnjaaSightQ
namespace Go.Proofs.Ytbphalaajhnnjaa
open Go.RowKit Go.ChangeAt
set_option linter.unusedVariables false
attribute [local go_sem] ext_cell ext_frozen lt_ext ext_drew

def holdsB (x y x2 y2 px py : Int) : Bool := decide (x ≤ px) && decide (px ≤ x2) && decide (y ≤ py) && decide (py ≤ y2)

set_option maxHeartbeats 1000000 in
theorem holds_any (r : Bool) (x y x2 y2 px py : Int) (w : World) (hr : Hid (holdsB x y x2 y2 px py = r)) :
    Calls Try.prog 18 #[.agg #[.int .i64 x, .int .i64 y, .int .i64 x2, .int .i64 y2], .agg #[.int .i64 px, .int .i64 py]] w fun e w' => e = .returned (.bool r) ∧ Below w.heap.size w w' := by
  have h := hr.out
  rw [← h]
  clear h hr
  unfold holdsB
  go_enter Try.func18, Try.ntmps18
  go_wp2
  all_goals go_ret
  all_goals refine ⟨ret_bool ?_, ((Below.refl _ _).alloc (by simp) _).alloc (by simp) _⟩
  all_goals (simp [*] <;> omega)
theorem contains_one {ax ay bx b_y x y x2 y2 : Int} (h1 : co ax) (h2 : co ay) (h3 : co bx) (h4 : co b_y) (h5 : co x) (h6 : co y) (h7 : co x2) (h8 : co y2)
    (h : crossB ax ay bx b_y x y x2 y2 = true) {m0 m1 m2 m3 : Int} (g1 : co m0) (g2 : co m1) (g3 : co m2) (g4 : co m3) : crossB ax ay bx b_y (min x m0) (min y m1) (max x2 m2) (max y2 m3) = true := by
  rw [cross_iff h1 h2 h3 h4 h5 h6 h7 h8] at h
  rw [cross_iff h1 h2 h3 h4 (by unfold co at *; omega) (by unfold co at *; omega) (by unfold co at *; omega) (by unfold co at *; omega)]
  exact cross_wide h (by omega) (by omega) (by omega) (by omega)
theorem contains_in {ax ay bx b_y x y x2 y2 : Int} (h1 : co ax) (h2 : co ay) (h3 : co bx) (h4 : co b_y) (h5 : co x) (h6 : co y) (h7 : co x2) (h8 : co y2)
    (h : crossB ax ay bx b_y x y x2 y2 = false) : holdsB x y x2 y2 ax ay = false ∧ holdsB x y x2 y2 bx b_y = false ∧ holdsB (2 * x) (2 * y) (2 * x2) (2 * y2) (ax + bx) (ay + b_y) = false := by
  have hn : ¬ Cross ax ay bx b_y x y x2 y2 := fun hc => by rw [(cross_iff h1 h2 h3 h4 h5 h6 h7 h8).2 hc] at h; cases h
  refine ⟨?_, ?_, ?_⟩
  · rw [Bool.eq_false_iff]; intro hh; unfold holdsB at hh; simp only [Bool.and_eq_true, decide_eq_true_eq] at hh; exact hn (cross_a hh.1.1.1 hh.1.1.2 hh.1.2 hh.2)
  · rw [Bool.eq_false_iff]; intro hh; unfold holdsB at hh; simp only [Bool.and_eq_true, decide_eq_true_eq] at hh; exact hn (cross_b hh.1.1.1 hh.1.1.2 hh.1.2 hh.2)
  · rw [Bool.eq_false_iff]; intro hh; unfold holdsB at hh; simp only [Bool.and_eq_true, decide_eq_true_eq] at hh; exact hn (cross_mid hh.1.1.1 hh.1.1.2 hh.1.2 hh.2)
theorem contains_out {ax ay bx b_y x y x2 y2 : Int} (h1 : co ax) (h2 : co ay) (h3 : co bx) (h4 : co b_y) (h5 : co x) (h6 : co y) (h7 : co x2) (h8 : co y2)
    (h : crossB ax ay bx b_y x y x2 y2 = true) : x ≤ max ax bx ∧ min ax bx ≤ x2 ∧ y ≤ max ay b_y ∧ min ay b_y ≤ y2 := by
  rw [cross_iff h1 h2 h3 h4 h5 h6 h7 h8] at h
  exact h.2.1

set_option maxRecDepth 100000 in
set_option maxHeartbeats 4000000 in
theorem contains_walk (n0 n1 n2 n3 n4 n5 n6 n7 m0 m1 m2 m3 : Int) (w : World) (h0 : 0 ≤ n0 ∧ n0 ≤ 65535) (h1 : 0 ≤ n1 ∧ n1 ≤ 65535) (h2 : 0 ≤ n2 ∧ n2 ≤ 65535) (h3 : 0 ≤ n3 ∧ n3 ≤ 65535) (h4 : 0 ≤ n4 ∧ n4 ≤ 65535) (h5 : 0 ≤ n5 ∧ n5 ≤ 65535) (h6 : 0 ≤ n6 ∧ n6 ≤ 65535) (h7 : 0 ≤ n7 ∧ n7 ≤ 65535)
    (g0 : 0 ≤ m0 ∧ m0 ≤ 65535) (g1 : 0 ≤ m1 ∧ m1 ≤ 65535) (g2 : 0 ≤ m2 ∧ m2 ≤ 65535) (g3 : 0 ≤ m3 ∧ m3 ≤ 65535) :
    Calls Try.prog 6 #[.agg #[.int .u16 n0, .int .u16 n1, .int .u16 n2, .int .u16 n3, .int .u16 n4, .int .u16 n5, .int .u16 n6, .int .u16 n7], .agg #[.int .u16 m0, .int .u16 m1, .int .u16 m2, .int .u16 m3]] w
      fun e w' => e = .returned (.bool true) ∧ Below w.heap.size w w' := by
  go_enter Try.func6, Try.ntmps6
  go_wp2_with fail
  refine (head_any _).mono ?_
  rintro e w1 ⟨rfl, hb⟩
  have bA := ((Bk.new w #[.int .u16 n0, .int .u16 n1, .int .u16 n2, .int .u16 n3, .int .u16 n4, .int .u16 n5, .int .u16 n6, .int .u16 n7] 35).alloc _).below hb
  have bM := (Bk.new (w.alloc (.cells #[.int .u16 n0, .int .u16 n1, .int .u16 n2, .int .u16 n3, .int .u16 n4, .int .u16 n5, .int .u16 n6, .int .u16 n7] 35)) #[.int .u16 m0, .int .u16 m1, .int .u16 m2, .int .u16 m3] 42).below hb
  have hw := (((Below.refl _ w).alloc (Nat.le_refl _) _).alloc (by simp) _).trans (hb.mono (by simp; omega))
  rw [World.size_alloc] at bM
  have cA := bA.cell
  have lA := bA.lt
  clear hb
  go_wp2_with fail
  refine region_wild w1 16 169 [14, 15] (fun _ => NewVar w1.heap.size (.cells #[.int .i64 0, .int .i64 0] 23)) (Below.refl _ _) (by kernel_rfl) (by kernel_rfl) rfl (fun _ _ _ _ h hb => h.keep hb) ?_
  apply Exists.intro
  refine ⟨?_, ?_, ?_⟩
  · intro X hX
    obtain ⟨v, rfl⟩ := ext_of hX
    clear hX
    simp only [List.take_succ_cons, List.take_zero]
    simp [muteAt, mute]
    repeat (go_big_quiet_step (first
      | (go_at_call 16; exact Calls.in_ext_same (coordinate_any _ _ (by omega) (by omega)))
      | (go_at_call 15; exact Calls.in_ext (point_any _ _ _))))
    exact wpQuiet_nil rfl
  · intro w2 hw2 j hj o ho
    simp only [List.mem_cons, List.not_mem_nil, or_false] at hj
    rcases hj with rfl | rfl
    all_goals
      simp only [List.getElem?_cons_succ, List.getElem?_cons_zero, Option.some.injEq] at ho
      subst ho
      refine wild_alloc hw2.size ?_
      go_simp
  · intro xs w2 hb hR hne hlt
    obtain ⟨b4, e4, g4, k4⟩ := hR 14 (by simp)
    obtain ⟨b5, e5, g5, k5⟩ := hR 15 (by simp)
    have hd := hne 14 (by simp) 15 (by simp) (by simp) b4 (by rw [e4]; rfl)
    rw [e5] at hd
    have hd' : b4 ≠ b5 := fun e => hd (by rw [e]; rfl)
    clear hne hd hR hlt
    have b4k : Bk w2 b4 _ _ := k4
    have b5k : Bk w2 b5 _ _ := k5
    have c4 := b4k.cell
    have f4 := b4k.free
    have c5 := b5k.cell
    have f5 := b5k.free
    clear k4 k5 cA lA
    simp only [putAll, List.getElem?_toArray, List.getElem?_cons_succ, List.getElem?_cons_zero, Option.bind_some, Act.put, e4, e5, List.setIfInBounds_toArray, List.set_cons_succ, List.set_cons_zero, List.drop_succ_cons, List.drop_zero]
    clear e4 e5
    go_upto_region 3 with (fail)
    refine forget (fun W => Below w.heap.size w W ∧ Bk W w.heap.size #[.int .u16 n0, .int .u16 n1, .int .u16 n2, .int .u16 n3, .int .u16 n4, .int .u16 n5, .int .u16 n6, .int .u16 n7] 35 ∧ Bk W (w.heap.size + 1) #[.int .u16 m0, .int .u16 m1, .int .u16 m2, .int .u16 m3] 42 ∧ Bk W b4 #[.int .i64 (n0 % 10001), .int .i64 (n1 % 10001)] 23 ∧ Bk W b5 #[.int .i64 (n2 % 10001), .int .i64 (n3 % 10001)] 23)
      ⟨?_, ?_, ?_, ?_, ?_⟩ ?_
    · exact ((((hw.trans (hb.mono hw.size)).setCell (by simp; have := hw.size; omega) _).setCell (by simp; have := hw.size; omega) _).setCell (by simp; have := hw.size; omega) _).setCell (by simp; have := hw.size; omega) _
    · exact ((((bA.below hb).far (by simp; have := bA.lt; omega) _).far (by simp; have := bA.lt; omega) _).far (by simp; have := bA.lt; omega) _).far (by simp; have := bA.lt; omega) _
    · exact ((((bM.below hb).far (by simp; have := bM.lt; omega) _).far (by simp; have := bM.lt; omega) _).far (by simp; have := bM.lt; omega) _).far (by simp; have := bM.lt; omega) _
    · exact (((b4k.set_ 0 _).set_ 1 _).far (by simpa using hd') _).far (by simpa using hd') _
    · exact (((b5k.far (by simpa using hd'.symm) _).far (by simpa using hd'.symm) _).set_ 0 _).set_ 1 _
    · clear c4 f4 c5 f5 b4k b5k bA bM hw hb g4 g5
      rintro w3 ⟨hw, bA, bM, b4k, b5k⟩
      have cA := bA.cell
      have lA := bA.lt
      clear bA
      refine region_wild w3 14 169 [13] (fun _ => NewVar w3.heap.size (.cells #[.int .i64 0, .int .i64 0, .int .i64 0, .int .i64 0] 25)) (Below.refl _ _) (by kernel_rfl) (by kernel_rfl) rfl (fun _ _ _ _ h hb => h.keep hb) ?_
      apply Exists.intro
      refine ⟨?_, ?_, ?_⟩
      · intro X hX
        obtain ⟨v, rfl⟩ := ext_of hX
        clear hX
        simp only [List.take_succ_cons, List.take_zero]
        simp [muteAt, mute]
        repeat (go_big_quiet_step (first
          | (go_at_call 16; exact Calls.in_ext_same (coordinate_any _ _ (by omega) (by omega)))
          | (go_at_call 17; exact Calls.in_ext (box_any _ _ _ _ _))))
        exact wpQuiet_nil rfl
      · intro w4 hw4 j hj o ho
        simp only [List.mem_cons, List.not_mem_nil, or_false] at hj
        subst hj
        simp only [List.getElem?_cons_succ, List.getElem?_cons_zero, Option.some.injEq] at ho
        subst ho
        refine wild_alloc hw4.size ?_
        go_simp
      · intro xs w4 hb hR _ _
        obtain ⟨b6, e6, g6, k6⟩ := hR 13 (by simp)
        clear hR
        have b6k : Bk w4 b6 _ _ := k6
        have c6 := b6k.cell
        have f6 := b6k.free
        clear k6 cA
        simp only [putAll, List.getElem?_toArray, List.getElem?_cons_succ, List.getElem?_cons_zero, Option.bind_some, Act.put, e6, List.setIfInBounds_toArray, List.set_cons_succ, List.set_cons_zero, List.drop_succ_cons, List.drop_zero]
        clear e6
        go_upto_region 4 with (fail)
        refine forget (fun W => Below w.heap.size w W ∧ Bk W (w.heap.size + 1) #[.int .u16 m0, .int .u16 m1, .int .u16 m2, .int .u16 m3] 42 ∧ Bk W b4 #[.int .i64 (n0 % 10001), .int .i64 (n1 % 10001)] 23 ∧ Bk W b5 #[.int .i64 (n2 % 10001), .int .i64 (n3 % 10001)] 23 ∧ Bk W b6 #[.int .i64 (n4 % 10001), .int .i64 (n5 % 10001), .int .i64 (n6 % 10001), .int .i64 (n7 % 10001)] 25)
          ⟨?_, ?_, ?_, ?_, ?_⟩ ?_
        · exact ((((hw.trans (hb.mono hw.size)).setCell (by simp; have := hw.size; omega) _).setCell (by simp; have := hw.size; omega) _).setCell (by simp; have := hw.size; omega) _).setCell (by simp; have := hw.size; omega) _
        · exact ((((bM.below hb).far (by simp; have := bM.lt; omega) _).far (by simp; have := bM.lt; omega) _).far (by simp; have := bM.lt; omega) _).far (by simp; have := bM.lt; omega) _
        · exact ((((b4k.below hb).far (by simp; have := b4k.lt; omega) _).far (by simp; have := b4k.lt; omega) _).far (by simp; have := b4k.lt; omega) _).far (by simp; have := b4k.lt; omega) _
        · exact ((((b5k.below hb).far (by simp; have := b5k.lt; omega) _).far (by simp; have := b5k.lt; omega) _).far (by simp; have := b5k.lt; omega) _).far (by simp; have := b5k.lt; omega) _
        · exact (((b6k.set_ 0 _).set_ 1 _).set_ 2 _).set_ 3 _
        · clear c6 f6 b6k hw hb g6 bM b4k b5k lA
          have k0 := co_mod n0
          have k1 := co_mod n1
          have k2 := co_mod n2
          have k3 := co_mod n3
          have k4 := co_mod n4
          have k5 := co_mod n5
          have k6 := co_mod n6
          have k7 := co_mod n7
          generalize n0 % 10001 = ax at *
          generalize n1 % 10001 = ay at *
          generalize n2 % 10001 = bx at *
          generalize n3 % 10001 = b_y at *
          generalize n4 % 10001 = x at *
          generalize n5 % 10001 = y at *
          generalize n6 % 10001 = x2 at *
          generalize n7 % 10001 = y2 at *
          clear h0 h1 h2 h3 h4 h5 h6 h7
          rintro w5 ⟨hw, bM, b4k, b5k, b6k⟩
          have cM := bM.cell
          have lM := bM.lt
          have c6 := b6k.cell
          have l6 := b6k.lt
          clear bM
          have hmx := ite_max
          have hmn := ite_min
          refine region_wild w5 26 169 [25] (fun _ => NewVar w5.heap.size (.cells #[.int .i64 0, .int .i64 0, .int .i64 0, .int .i64 0] 25)) (Below.refl _ _) (by kernel_rfl) (by kernel_rfl) rfl (fun _ _ _ _ h hb => h.keep hb) ?_
          apply Exists.intro
          refine ⟨?_, ?_, ?_⟩
          · intro X hX
            obtain ⟨v, rfl⟩ := ext_of hX
            clear hX
            simp only [List.take_succ_cons, List.take_zero]
            simp [muteAt, mute]
            repeat (go_big_quiet_step (first
              | (go_at_call 16; exact Calls.in_ext_same (coordinate_any _ _ (by omega) (by omega)))
              | (go_at_call 17; exact Calls.in_ext (box_any _ _ _ _ _))))
            exact wpQuiet_nil rfl
          · intro w6 hw6 j hj o ho
            simp only [List.mem_cons, List.not_mem_nil, or_false] at hj
            subst hj
            simp only [List.getElem?_cons_succ, List.getElem?_cons_zero, Option.some.injEq] at ho
            subst ho
            refine wild_alloc hw6.size ?_
            go_simp
          · intro xs w6 hb hR _ _
            obtain ⟨b7, e7, g7, k7'⟩ := hR 25 (by simp)
            clear hR
            have b7k : Bk w6 b7 _ _ := k7'
            have c7 := b7k.cell
            have f7 := b7k.free
            clear k7' cM c6
            simp only [putAll, List.getElem?_toArray, List.getElem?_cons_succ, List.getElem?_cons_zero, Option.bind_some, Act.put, e7, List.setIfInBounds_toArray, List.set_cons_succ, List.set_cons_zero, List.drop_succ_cons, List.drop_zero]
            clear e7
            go_upto_region 5 with (fail)
            refine forget (fun W => Below w.heap.size w W ∧ Bk W b4 #[.int .i64 ax, .int .i64 ay] 23 ∧ Bk W b5 #[.int .i64 bx, .int .i64 b_y] 23 ∧ Bk W b6 #[.int .i64 x, .int .i64 y, .int .i64 x2, .int .i64 y2] 25 ∧ Bk W b7 #[.int .i64 (min x (m0 % 10001)), .int .i64 (min y (m1 % 10001)), .int .i64 (max x2 (m2 % 10001)), .int .i64 (max y2 (m3 % 10001))] 25)
              ⟨?_, ?_, ?_, ?_, ?_⟩ ?_
            · exact ((((hw.trans (hb.mono hw.size)).setCell (by simp; have := hw.size; omega) _).setCell (by simp; have := hw.size; omega) _).setCell (by simp; have := hw.size; omega) _).setCell (by simp; have := hw.size; omega) _
            · exact ((((b4k.below hb).far (by simp; have := b4k.lt; omega) _).far (by simp; have := b4k.lt; omega) _).far (by simp; have := b4k.lt; omega) _).far (by simp; have := b4k.lt; omega) _
            · exact ((((b5k.below hb).far (by simp; have := b5k.lt; omega) _).far (by simp; have := b5k.lt; omega) _).far (by simp; have := b5k.lt; omega) _).far (by simp; have := b5k.lt; omega) _
            · exact ((((b6k.below hb).far (by simp; have := b6k.lt; omega) _).far (by simp; have := b6k.lt; omega) _).far (by simp; have := b6k.lt; omega) _).far (by simp; have := b6k.lt; omega) _
            · exact (((b7k.set_ 0 _).set_ 1 _).set_ 2 _).set_ 3 _
            · clear c7 f7 b7k hw hb g7 b4k b5k b6k lM l6
              rintro w7 ⟨hw, b4k, b5k, b6k, b7k⟩
              have c4 := b4k.cell
              have l4 := b4k.lt
              have c5 := b5k.cell
              have l5 := b5k.lt
              have c6 := b6k.cell
              have l6 := b6k.lt
              have c7 := b7k.cell
              have l7 := b7k.lt
              have m0' := co_mod m0
              have m1' := co_mod m1
              have m2' := co_mod m2
              have m3' := co_mod m3
              have z1 := co_eight k0 k1 k2 k3 k4 k5 k6 k7
              have z2 := co_eight (a := ax) (b := ay) (c := bx) (d := b_y) (e := min x (m0 % 10001)) (f := min y (m1 % 10001)) (g := max x2 (m2 % 10001)) (h := max y2 (m3 % 10001)) k0 k1 k2 k3 (by unfold co at *; omega) (by unfold co at *; omega) (by unfold co at *; omega) (by unfold co at *; omega)
              cases hr : crossB ax ay bx b_y x y x2 y2
              · obtain ⟨hi1, hi2, hi3⟩ := contains_in k0 k1 k2 k3 k4 k5 k6 k7 hr
                have Hr := Lib.hid hr
                have Hi1 := Lib.hid hi1
                have Hi2 := Lib.hid hi2
                have Hi3 := Lib.hid hi3
                obtain ⟨k0, k0'⟩ := k0
                obtain ⟨k1, k1'⟩ := k1
                obtain ⟨k2, k2'⟩ := k2
                obtain ⟨k3, k3'⟩ := k3
                obtain ⟨k4, k4'⟩ := k4
                obtain ⟨k5, k5'⟩ := k5
                obtain ⟨k6, k6'⟩ := k6
                obtain ⟨k7, k7'⟩ := k7
                clear hr hi1 hi2 hi3 m0' m1' m2' m3' g0 g1 g2 g3 c7 l7 z2 b7k
                go_wp2_with fail
                refine (crosses_any false _ _ _ _ _ _ _ _ _ z1 Hr).mono ?_
                rintro e w8 ⟨rfl, hb⟩
                obtain ⟨u, rfl⟩ := ext_of hb
                clear hb
                go_wp2_with fail
                refine (box_any _ _ _ _ _).mono ?_
                rintro e w8 ⟨rfl, hb⟩
                obtain ⟨u, rfl⟩ := ext_more hb
                clear hb
                go_upto_region 9 with (fail)
                refine forget (fun W => Below w.heap.size w W ∧ Bk W b4 #[.int .i64 ax, .int .i64 ay] 23 ∧ Bk W b5 #[.int .i64 bx, .int .i64 b_y] 23 ∧ Bk W b6 #[.int .i64 x, .int .i64 y, .int .i64 x2, .int .i64 y2] 25 ∧ Bk W (ext w7 u).heap.size #[.int .i64 (2 * x), .int .i64 (2 * y), .int .i64 (2 * x2), .int .i64 (2 * y2)] 25)
                  ⟨(ext_below hw hw.size u).alloc (Nat.le_trans hw.size (size_ext w7 u)) _, (b4k.ext u).alloc _, (b5k.ext u).alloc _, (b6k.ext u).alloc _, Bk.new _ _ _⟩ ?_
                clear hw b4k b5k b6k l4 l5 l6 c4 c5 c6
                generalize (ext w7 u).heap.size = b8 at *
                rintro w9 ⟨hw, b4k, b5k, b6k, b8k⟩
                have c4 := b4k.cell
                have l4 := b4k.lt
                have c5 := b5k.cell
                have l5 := b5k.lt
                have c6 := b6k.cell
                have l6 := b6k.lt
                have c8 := b8k.cell
                have l8 := b8k.lt
                clear b4k b5k b6k b8k
                refine wp_region_ext _ (by kernel_rfl) (by kernel_rfl) ?_
                repeat (go_big_quiet_step (first
                  | (go_at_call 15; exact Calls.in_ext (point_any _ _ _))
                  | (go_at_call 18; first
                      | (with_reducible exact Calls.in_ext (holds_any false x y x2 y2 ax ay _ Hi1))
                      | (with_reducible exact Calls.in_ext (holds_any false x y x2 y2 bx b_y _ Hi2))
                      | (with_reducible exact Calls.in_ext (holds_any false (2 * x) (2 * y) (2 * x2) (2 * y2) (ax + bx) (ay + b_y) _ Hi3)))))
                refine wpQuiet_nil (fun v => ?_)
                go_wp2
                all_goals go_ret
                all_goals exact ⟨rfl, ext_below hw hw.size _⟩
              · obtain ⟨f1, f2, f3, f4⟩ := contains_out k0 k1 k2 k3 k4 k5 k6 k7 hr
                have Hr := Lib.hid hr
                have hww := contains_one k0 k1 k2 k3 k4 k5 k6 k7 hr m0' m1' m2' m3'
                have Hw := Lib.hid hww
                obtain ⟨k0, k0'⟩ := k0
                obtain ⟨k1, k1'⟩ := k1
                obtain ⟨k2, k2'⟩ := k2
                obtain ⟨k3, k3'⟩ := k3
                obtain ⟨k4, k4'⟩ := k4
                obtain ⟨k5, k5'⟩ := k5
                obtain ⟨k6, k6'⟩ := k6
                obtain ⟨k7, k7'⟩ := k7
                clear hr hww m0' m1' m2' m3' g0 g1 g2 g3
                go_wp2_with fail
                refine (crosses_any true _ _ _ _ _ _ _ _ _ z1 Hr).mono ?_
                rintro e w8 ⟨rfl, hb⟩
                obtain ⟨u, rfl⟩ := ext_of hb
                clear hb
                go_wp2_with fail
                refine (crosses_any true _ _ _ _ _ _ _ _ _ z2 Hw).mono ?_
                rintro e w8 ⟨rfl, hb⟩
                obtain ⟨u, rfl⟩ := ext_more hb
                clear hb
                clear c7 l7 b7k z1 z2
                go_wp2_with fail
                refine (box_any _ _ _ _ _).mono ?_
                rintro e w8 ⟨rfl, hb⟩
                obtain ⟨u, rfl⟩ := ext_more hb
                clear hb
                go_upto_region 9 with (fail)
                refine forget (fun W => Below w.heap.size w W ∧ Bk W b4 #[.int .i64 ax, .int .i64 ay] 23 ∧ Bk W b5 #[.int .i64 bx, .int .i64 b_y] 23 ∧ Bk W b6 #[.int .i64 x, .int .i64 y, .int .i64 x2, .int .i64 y2] 25 ∧ Bk W (ext w7 u).heap.size #[.int .i64 (2 * x), .int .i64 (2 * y), .int .i64 (2 * x2), .int .i64 (2 * y2)] 25)
                  ⟨(ext_below hw hw.size u).alloc (Nat.le_trans hw.size (size_ext w7 u)) _, (b4k.ext u).alloc _, (b5k.ext u).alloc _, (b6k.ext u).alloc _, Bk.new _ _ _⟩ ?_
                clear hw b4k b5k b6k l4 l5 l6 c4 c5 c6
                generalize (ext w7 u).heap.size = b8 at *
                rintro w9 ⟨hw, b4k, b5k, b6k, b8k⟩
                have c4 := b4k.cell
                have l4 := b4k.lt
                have c5 := b5k.cell
                have l5 := b5k.lt
                have c6 := b6k.cell
                have l6 := b6k.lt
                have c8 := b8k.cell
                have l8 := b8k.lt
                clear b4k b5k b6k b8k
                cases hi1 : holdsB x y x2 y2 ax ay
                · cases hi2 : holdsB x y x2 y2 bx b_y
                  · cases hi3 : holdsB (2 * x) (2 * y) (2 * x2) (2 * y2) (ax + bx) (ay + b_y)
                    all_goals have Hi1 := Lib.hid hi1
                    all_goals have Hi2 := Lib.hid hi2
                    all_goals have Hi3 := Lib.hid hi3
                    all_goals clear hi1 hi2 hi3
                    · refine wp_region_ext _ (by kernel_rfl) (by kernel_rfl) ?_
                      repeat (go_big_quiet_step (first
                        | (go_at_call 15; exact Calls.in_ext (point_any _ _ _))
                        | (go_at_call 18; first
                            | (with_reducible exact Calls.in_ext (holds_any false x y x2 y2 ax ay _ Hi1))
                            | (with_reducible exact Calls.in_ext (holds_any false x y x2 y2 bx b_y _ Hi2))
                            | (with_reducible exact Calls.in_ext (holds_any false (2 * x) (2 * y) (2 * x2) (2 * y2) (ax + bx) (ay + b_y) _ Hi3)))))
                      refine wpQuiet_nil (fun v => ?_)
                      go_wp2
                      all_goals go_ret
                      all_goals exact ⟨rfl, ext_below hw hw.size _⟩
                    · refine wp_region_ext _ (by kernel_rfl) (by kernel_rfl) ?_
                      repeat (go_big_quiet_step (first
                        | (go_at_call 15; exact Calls.in_ext (point_any _ _ _))
                        | (go_at_call 18; first
                            | (with_reducible exact Calls.in_ext (holds_any false x y x2 y2 ax ay _ Hi1))
                            | (with_reducible exact Calls.in_ext (holds_any false x y x2 y2 bx b_y _ Hi2))
                            | (with_reducible exact Calls.in_ext (holds_any true (2 * x) (2 * y) (2 * x2) (2 * y2) (ax + bx) (ay + b_y) _ Hi3)))))
                      refine wpQuiet_nil (fun v => ?_)
                      go_wp2
                      all_goals go_ret
                      all_goals exact ⟨rfl, ext_below hw hw.size _⟩
                  · have Hi1 := Lib.hid hi1
                    have Hi2 := Lib.hid hi2
                    have Hi3 : Hid True := trivial
                    clear hi1 hi2
                    refine wp_region_ext _ (by kernel_rfl) (by kernel_rfl) ?_
                    repeat (go_big_quiet_step (first
                      | (go_at_call 15; exact Calls.in_ext (point_any _ _ _))
                      | (go_at_call 18; first
                          | (with_reducible exact Calls.in_ext (holds_any false x y x2 y2 ax ay _ Hi1))
                          | (with_reducible exact Calls.in_ext (holds_any true x y x2 y2 bx b_y _ Hi2)))))
                    refine wpQuiet_nil (fun v => ?_)
                    go_wp2
                    all_goals go_ret
                    all_goals exact ⟨rfl, ext_below hw hw.size _⟩
                · have Hi1 := Lib.hid hi1
                  clear hi1
                  refine wp_region_ext _ (by kernel_rfl) (by kernel_rfl) ?_
                  repeat (go_big_quiet_step (first
                    | (go_at_call 15; exact Calls.in_ext (point_any _ _ _))
                    | (go_at_call 18; first
                        | (with_reducible exact Calls.in_ext (holds_any true x y x2 y2 ax ay _ Hi1)))))
                  refine wpQuiet_nil (fun v => ?_)
                  go_wp2
                  all_goals go_ret
                  all_goals exact ⟨rfl, ext_below hw hw.size _⟩
end Go.Proofs.Ytbphalaajhnnjaa
