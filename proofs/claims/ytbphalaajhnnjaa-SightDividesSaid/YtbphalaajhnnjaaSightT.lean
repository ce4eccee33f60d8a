/- SightDivides: a line crosses a rectangle exactly if it crosses one of the two parts into which a line divides it; for every numbers; no condition. -/
import Derived.Test.YtbphalaajhnnjaaSightS
namespace Go.Proofs.Ytbphalaajhnnjaa
open Go.RowKit Go.ChangeAt
set_option linter.unusedVariables false
attribute [local go_sem] ext_cell ext_frozen lt_ext ext_drew

theorem drew_below {B : Nat} {w w' : World} (h : Below B w w') : Below B w w'.drew := h.drew
theorem Bk.drewN {w : World} {b : Nat} {C : Array Value} {t : TypeId} (h : Bk w b C t) (n : Nat) : Bk (w.drewN n) b C t := h
theorem Bk.new_next (w : World) (o : Obj) (C : Array Value) (t : TypeId) : Bk ((w.alloc o).alloc (.cells C t)).drew (w.heap.size + 1) C t := by
  have h := Bk.new (w.alloc o) C t
  have e : (w.alloc o).heap.size = w.heap.size + 1 := by simp
  rw [e] at h
  exact h

set_option maxRecDepth 100000 in
set_option maxHeartbeats 4000000 in
theorem divides_walk (n0 n1 n2 n3 n4 n5 n6 n7 at_ : Int) (vert : Bool) (w : World) (h0 : 0 ≤ n0 ∧ n0 ≤ 65535) (h1 : 0 ≤ n1 ∧ n1 ≤ 65535) (h2 : 0 ≤ n2 ∧ n2 ≤ 65535) (h3 : 0 ≤ n3 ∧ n3 ≤ 65535) (h4 : 0 ≤ n4 ∧ n4 ≤ 65535) (h5 : 0 ≤ n5 ∧ n5 ≤ 65535) (h6 : 0 ≤ n6 ∧ n6 ≤ 65535) (h7 : 0 ≤ n7 ∧ n7 ≤ 65535)
    (ha : 0 ≤ at_ ∧ at_ ≤ 65535) :
    Calls Try.prog 7 #[.agg #[.int .u16 n0, .int .u16 n1, .int .u16 n2, .int .u16 n3, .int .u16 n4, .int .u16 n5, .int .u16 n6, .int .u16 n7], .int .u16 at_, .bool vert] w
      fun e w' => e = .returned (.bool true) ∧ Below w.heap.size w w' := by
  have hmx := ite_max
  have hmn := ite_min
  go_enter Try.func7, Try.ntmps7
  go_wp2_with fail
  refine (head_any _).mono ?_
  rintro e w1 ⟨rfl, hb⟩
  have bA := (Bk.new w #[.int .u16 n0, .int .u16 n1, .int .u16 n2, .int .u16 n3, .int .u16 n4, .int .u16 n5, .int .u16 n6, .int .u16 n7] 35).below hb
  have hw := ((Below.refl _ w).alloc (Nat.le_refl _) _).trans (hb.mono (by simp))
  have cA := bA.cell
  have lA := bA.lt
  clear hb
  go_wp2_with fail
  refine region_wild w1 16 112 [14, 15] (fun _ => NewVar w1.heap.size (.cells #[.int .i64 0, .int .i64 0] 23)) (Below.refl _ _) (by kernel_rfl) (by kernel_rfl) rfl (fun _ _ _ _ h hb => h.keep hb) ?_
  apply Exists.intro
  refine ⟨?_, ?_, ?_⟩
  · intro X hX
    obtain ⟨v, rfl⟩ := ext_of hX
    clear hX
    simp only [List.take_succ_cons, List.take_zero]
    simp [muteAt, mute]
    repeat (go_big_quiet_step (first
      | (go_at_call 16; exact Calls.in_ext_same (coordinate_any _ _ (by omega) (by omega)))
      | (go_at_call 15; exact Calls.in_ext (point_any _ _ _))))
    exact wpQuiet_nil rfl
  · intro w2 hw2 j hj o ho
    simp only [List.mem_cons, List.not_mem_nil, or_false] at hj
    rcases hj with rfl | rfl
    all_goals
      simp only [List.getElem?_cons_succ, List.getElem?_cons_zero, Option.some.injEq] at ho
      subst ho
      refine wild_alloc hw2.size ?_
      go_simp
  · intro xs w2 hb hR hne hlt
    obtain ⟨b4, e4, g4, k4⟩ := hR 14 (by simp)
    obtain ⟨b5, e5, g5, k5⟩ := hR 15 (by simp)
    have hd := hne 14 (by simp) 15 (by simp) (by simp) b4 (by rw [e4]; rfl)
    rw [e5] at hd
    have hd' : b4 ≠ b5 := fun e => hd (by rw [e]; rfl)
    clear hne hd hR hlt
    have b4k : Bk w2 b4 _ _ := k4
    have b5k : Bk w2 b5 _ _ := k5
    have c4 := b4k.cell
    have f4 := b4k.free
    have c5 := b5k.cell
    have f5 := b5k.free
    clear k4 k5 cA lA
    simp only [putAll, List.getElem?_toArray, List.getElem?_cons_succ, List.getElem?_cons_zero, Option.bind_some, Act.put, e4, e5, List.setIfInBounds_toArray, List.set_cons_succ, List.set_cons_zero, List.drop_succ_cons, List.drop_zero]
    clear e4 e5
    go_upto_region 3 with (fail)
    refine forget (fun W => Below w.heap.size w W ∧ Bk W w.heap.size #[.int .u16 n0, .int .u16 n1, .int .u16 n2, .int .u16 n3, .int .u16 n4, .int .u16 n5, .int .u16 n6, .int .u16 n7] 35 ∧ Bk W b4 #[.int .i64 (n0 % 10001), .int .i64 (n1 % 10001)] 23 ∧ Bk W b5 #[.int .i64 (n2 % 10001), .int .i64 (n3 % 10001)] 23)
      ⟨?_, ?_, ?_, ?_⟩ ?_
    · exact ((((hw.trans (hb.mono hw.size)).setCell (by simp; have := hw.size; omega) _).setCell (by simp; have := hw.size; omega) _).setCell (by simp; have := hw.size; omega) _).setCell (by simp; have := hw.size; omega) _
    · exact ((((bA.below hb).far (by simp; have := bA.lt; omega) _).far (by simp; have := bA.lt; omega) _).far (by simp; have := bA.lt; omega) _).far (by simp; have := bA.lt; omega) _
    · exact (((b4k.set_ 0 _).set_ 1 _).far (by simpa using hd') _).far (by simpa using hd') _
    · exact (((b5k.far (by simpa using hd'.symm) _).far (by simpa using hd'.symm) _).set_ 0 _).set_ 1 _
    · clear c4 f4 c5 f5 b4k b5k bA hw hb g4 g5
      rintro w3 ⟨hw, bA, b4k, b5k⟩
      have cA := bA.cell
      have lA := bA.lt
      clear bA
      refine region_wild w3 30 112 [29] (fun _ => NewVar w3.heap.size (.cells #[.int .i64 0, .int .i64 0, .int .i64 0, .int .i64 0] 25)) (Below.refl _ _) (by kernel_rfl) (by kernel_rfl) rfl (fun _ _ _ _ h hb => h.keep hb) ?_
      apply Exists.intro
      refine ⟨?_, ?_, ?_⟩
      · intro X hX
        obtain ⟨v, rfl⟩ := ext_of hX
        clear hX
        simp only [List.take_succ_cons, List.take_zero]
        simp [muteAt, mute]
        repeat (go_big_quiet_step (first
          | (go_at_call 16; exact Calls.in_ext_same (coordinate_any _ _ (by omega) (by omega)))
          | (go_at_call 17; exact Calls.in_ext (box_any _ _ _ _ _))))
        exact wpQuiet_nil rfl
      · intro w4 hw4 j hj o ho
        simp only [List.mem_cons, List.not_mem_nil, or_false] at hj
        subst hj
        simp only [List.getElem?_cons_succ, List.getElem?_cons_zero, Option.some.injEq] at ho
        subst ho
        refine wild_alloc hw4.size ?_
        go_simp
      · intro xs w4 hb hR _ _
        obtain ⟨b6, e6, g6, k6⟩ := hR 29 (by simp)
        clear hR
        have b6k : Bk w4 b6 _ _ := k6
        have c6 := b6k.cell
        have f6 := b6k.free
        clear k6 cA
        simp only [putAll, List.getElem?_toArray, List.getElem?_cons_succ, List.getElem?_cons_zero, Option.bind_some, Act.put, e6, List.setIfInBounds_toArray, List.set_cons_succ, List.set_cons_zero, List.drop_succ_cons, List.drop_zero]
        clear e6
        go_upto_region 4 with (fail)
        refine forget (fun W => Below w.heap.size w W ∧ Bk W b4 #[.int .i64 (n0 % 10001), .int .i64 (n1 % 10001)] 23 ∧ Bk W b5 #[.int .i64 (n2 % 10001), .int .i64 (n3 % 10001)] 23 ∧
            Bk W b6 #[.int .i64 (min (n4 % 10001) (n6 % 10001)), .int .i64 (min (n5 % 10001) (n7 % 10001)), .int .i64 (max (n4 % 10001) (n6 % 10001)), .int .i64 (max (n5 % 10001) (n7 % 10001))] 25)
          ⟨?_, ?_, ?_, ?_⟩ ?_
        · exact ((((hw.trans (hb.mono hw.size)).setCell (by simp; have := hw.size; omega) _).setCell (by simp; have := hw.size; omega) _).setCell (by simp; have := hw.size; omega) _).setCell (by simp; have := hw.size; omega) _
        · exact ((((b4k.below hb).far (by simp; have := b4k.lt; omega) _).far (by simp; have := b4k.lt; omega) _).far (by simp; have := b4k.lt; omega) _).far (by simp; have := b4k.lt; omega) _
        · exact ((((b5k.below hb).far (by simp; have := b5k.lt; omega) _).far (by simp; have := b5k.lt; omega) _).far (by simp; have := b5k.lt; omega) _).far (by simp; have := b5k.lt; omega) _
        · exact (((b6k.set_ 0 _).set_ 1 _).set_ 2 _).set_ 3 _
        · clear c6 f6 b6k hw hb g6 b4k b5k lA
          have k0 := co_mod n0
          have k1 := co_mod n1
          have k2 := co_mod n2
          have k3 := co_mod n3
          have k4 : co (min (n4 % 10001) (n6 % 10001)) := by unfold co; omega
          have k5 : co (min (n5 % 10001) (n7 % 10001)) := by unfold co; omega
          have k6 : co (max (n4 % 10001) (n6 % 10001)) := by unfold co; omega
          have k7 : co (max (n5 % 10001) (n7 % 10001)) := by unfold co; omega
          have kx : min (n4 % 10001) (n6 % 10001) ≤ max (n4 % 10001) (n6 % 10001) := by omega
          have ky : min (n5 % 10001) (n7 % 10001) ≤ max (n5 % 10001) (n7 % 10001) := by omega
          generalize n0 % 10001 = ax at *
          generalize n1 % 10001 = ay at *
          generalize n2 % 10001 = bx at *
          generalize n3 % 10001 = b_y at *
          generalize min (n4 % 10001) (n6 % 10001) = x at *
          generalize min (n5 % 10001) (n7 % 10001) = y at *
          generalize max (n4 % 10001) (n6 % 10001) = x2 at *
          generalize max (n5 % 10001) (n7 % 10001) = y2 at *
          clear h0 h1 h2 h3 h4 h5 h6 h7 hmx hmn
          rintro w5 ⟨hw, b4k, b5k, b6k⟩
          have c6 := b6k.cell
          have l6 := b6k.lt
          go_region
          all_goals go_upto_region 5 with (fail)
          all_goals
            have l4 := b4k.lt
            have l5 := b5k.lt
            have l7 := hw.size
            refine forget (fun W => Below w.heap.size w W ∧ Bk W b4 #[.int .i64 ax, .int .i64 ay] 23 ∧ Bk W b5 #[.int .i64 bx, .int .i64 b_y] 23 ∧ Bk W b6 #[.int .i64 x, .int .i64 y, .int .i64 x2, .int .i64 y2] 25 ∧
                Bk W w5.heap.size #[.int .i64 x, .int .i64 y, .int .i64 x2, .int .i64 y2] 25 ∧ Bk W (w5.heap.size + 1) #[.int .i64 x, .int .i64 y, .int .i64 x2, .int .i64 y2] 25)
              ⟨drew_below ((hw.alloc hw.size _).alloc (by simp; omega) _), (b4k.alloc _).alloc _, (b5k.alloc _).alloc _, (b6k.alloc _).alloc _, (Bk.new _ _ _).alloc _, Bk.new_next _ _ _ _⟩ ?_
            clear hw b4k b5k b6k c6
            generalize w5.heap.size = s at *
            rintro w7 ⟨hw, b4k, b5k, b6k, b7k, b8k⟩
            have c6 := b6k.cell
            have c7 := b7k.cell
            have f7 := b7k.free
            have c8 := b8k.cell
            have f8 := b8k.free
            have d1 : b6 ≠ s := by omega
            have d2 : b6 ≠ s + 1 := by omega
            have z1 := co_eight k0 k1 k2 k3 k4 k5 k6 k7
            cases vert
          · have e1 : 0 ≤ at_ % (y2 - y + 1) := Int.emod_nonneg _ (by omega)
            have e2 : at_ % (y2 - y + 1) ≤ y2 - y := by have := Int.emod_lt_of_pos at_ (show 0 < y2 - y + 1 by omega); omega
            have e3 : 0 < y2 - y + 1 := by omega
            have kk : co (y + at_ % (y2 - y + 1)) := by unfold co at *; omega
            have g1 : y ≤ y + at_ % (y2 - y + 1) := by omega
            have g2 : y + at_ % (y2 - y + 1) ≤ y2 := by omega
            have ll := k5
            have lh := k7
            unfold co at ll lh
            obtain ⟨ll, ll'⟩ := ll
            obtain ⟨lh, lh'⟩ := lh
            go_wp2_with fail
            go_quiet (fail)
            go_upto_region 10 with (fail)
            generalize y + at_ % (y2 - y + 1) = k at *
            refine forget (fun W => Below w.heap.size w W ∧ Bk W b4 #[.int .i64 ax, .int .i64 ay] 23 ∧ Bk W b5 #[.int .i64 bx, .int .i64 b_y] 23 ∧ Bk W b6 #[.int .i64 x, .int .i64 y, .int .i64 x2, .int .i64 y2] 25 ∧
                Bk W s #[.int .i64 x, .int .i64 y, .int .i64 x2, .int .i64 k] 25 ∧ Bk W (s + 1) #[.int .i64 x, .int .i64 k, .int .i64 x2, .int .i64 y2] 25) ⟨?_, ?_, ?_, ?_, ?_, ?_⟩ ?_
            · exact ((below_drewN hw _).setCell (by simp; omega) _).setCell (by simp; omega) _
            · exact ((b4k.drewN _).far (by simp; omega) _).far (by simp; omega) _
            · exact ((b5k.drewN _).far (by simp; omega) _).far (by simp; omega) _
            · exact ((b6k.drewN _).far (by simp; omega) _).far (by simp; omega) _
            · first
                | exact ((b7k.drewN _).set_ _ _).far (by simp) _
                | exact ((b7k.drewN _).far (by simp) _).set_ _ _
            · first
                | exact ((b8k.drewN _).far (by simp) _).set_ _ _
                | exact ((b8k.drewN _).set_ _ _).far (by simp) _
            clear hw b4k b5k b6k b7k b8k c6 c7 f7 c8 f8
            rintro w8 ⟨hw, b4k, b5k, b6k, b7k, b8k⟩
            have c4 := b4k.cell
            have c5 := b5k.cell
            have c6 := b6k.cell
            have c7 := b7k.cell
            have c8 := b8k.cell
            have l4 := b4k.lt
            have l5 := b5k.lt
            have l6 := b6k.lt
            have l7 := b7k.lt
            have l8 := b8k.lt
            clear b4k b5k b6k b7k b8k
            have z2 := co_eight k0 k1 k2 k3 k4 k5 k6 kk
            have z3 := co_eight k0 k1 k2 k3 k4 kk k6 k7
            obtain ⟨r1, hr1⟩ : ∃ r, crossB ax ay bx b_y x y x2 k = r := ⟨_, rfl⟩
            obtain ⟨r2, hr2⟩ : ∃ r, crossB ax ay bx b_y x k x2 y2 = r := ⟨_, rfl⟩
            have hr : crossB ax ay bx b_y x y x2 y2 = (r1 || r2) := by
              rw [← hr1, ← hr2, Bool.eq_iff_iff, Bool.or_eq_true, cross_iff k0 k1 k2 k3 k4 k5 k6 k7, cross_iff k0 k1 k2 k3 k4 k5 k6 kk, cross_iff k0 k1 k2 k3 k4 kk k6 k7]
              exact cross_divides_y g1 g2
            have Hr1 := Lib.hid hr1
            have Hr2 := Lib.hid hr2
            have Hr := Lib.hid hr
            clear hr hr1 hr2
            cases r1 <;> cases r2
            all_goals
              simp only [Bool.or_true, Bool.or_false] at Hr
              refine wp_region_ext _ (by kernel_rfl) (by kernel_rfl) ?_
              repeat (go_big_quiet_step (first
                | (go_at_call 11; first
                    | (with_reducible exact crosses_in _ _ _ _ _ _ _ _ _ _ _ z1 Hr)
                    | (with_reducible exact crosses_in _ _ _ _ _ _ _ _ _ _ _ z2 Hr1)
                    | (with_reducible exact crosses_in _ _ _ _ _ _ _ _ _ _ _ z3 Hr2))))
              refine wpQuiet_nil (fun v => ?_)
              go_wp2
              all_goals go_ret
              all_goals exact ⟨rfl, ext_below hw hw.size _⟩
          · have e1 : 0 ≤ at_ % (x2 - x + 1) := Int.emod_nonneg _ (by omega)
            have e2 : at_ % (x2 - x + 1) ≤ x2 - x := by have := Int.emod_lt_of_pos at_ (show 0 < x2 - x + 1 by omega); omega
            have e3 : 0 < x2 - x + 1 := by omega
            have kk : co (x + at_ % (x2 - x + 1)) := by unfold co at *; omega
            have g1 : x ≤ x + at_ % (x2 - x + 1) := by omega
            have g2 : x + at_ % (x2 - x + 1) ≤ x2 := by omega
            have ll := k4
            have lh := k6
            unfold co at ll lh
            obtain ⟨ll, ll'⟩ := ll
            obtain ⟨lh, lh'⟩ := lh
            go_wp2_with fail
            go_quiet (fail)
            go_upto_region 10 with (fail)
            generalize x + at_ % (x2 - x + 1) = k at *
            refine forget (fun W => Below w.heap.size w W ∧ Bk W b4 #[.int .i64 ax, .int .i64 ay] 23 ∧ Bk W b5 #[.int .i64 bx, .int .i64 b_y] 23 ∧ Bk W b6 #[.int .i64 x, .int .i64 y, .int .i64 x2, .int .i64 y2] 25 ∧
                Bk W s #[.int .i64 x, .int .i64 y, .int .i64 k, .int .i64 y2] 25 ∧ Bk W (s + 1) #[.int .i64 k, .int .i64 y, .int .i64 x2, .int .i64 y2] 25) ⟨?_, ?_, ?_, ?_, ?_, ?_⟩ ?_
            · exact ((below_drewN hw _).setCell (by simp; omega) _).setCell (by simp; omega) _
            · exact ((b4k.drewN _).far (by simp; omega) _).far (by simp; omega) _
            · exact ((b5k.drewN _).far (by simp; omega) _).far (by simp; omega) _
            · exact ((b6k.drewN _).far (by simp; omega) _).far (by simp; omega) _
            · first
                | exact ((b7k.drewN _).set_ _ _).far (by simp) _
                | exact ((b7k.drewN _).far (by simp) _).set_ _ _
            · first
                | exact ((b8k.drewN _).far (by simp) _).set_ _ _
                | exact ((b8k.drewN _).set_ _ _).far (by simp) _
            clear hw b4k b5k b6k b7k b8k c6 c7 f7 c8 f8
            rintro w8 ⟨hw, b4k, b5k, b6k, b7k, b8k⟩
            have c4 := b4k.cell
            have c5 := b5k.cell
            have c6 := b6k.cell
            have c7 := b7k.cell
            have c8 := b8k.cell
            have l4 := b4k.lt
            have l5 := b5k.lt
            have l6 := b6k.lt
            have l7 := b7k.lt
            have l8 := b8k.lt
            clear b4k b5k b6k b7k b8k
            have z2 := co_eight k0 k1 k2 k3 k4 k5 kk k7
            have z3 := co_eight k0 k1 k2 k3 kk k5 k6 k7
            obtain ⟨r1, hr1⟩ : ∃ r, crossB ax ay bx b_y x y k y2 = r := ⟨_, rfl⟩
            obtain ⟨r2, hr2⟩ : ∃ r, crossB ax ay bx b_y k y x2 y2 = r := ⟨_, rfl⟩
            have hr : crossB ax ay bx b_y x y x2 y2 = (r1 || r2) := by
              rw [← hr1, ← hr2, Bool.eq_iff_iff, Bool.or_eq_true, cross_iff k0 k1 k2 k3 k4 k5 k6 k7, cross_iff k0 k1 k2 k3 k4 k5 kk k7, cross_iff k0 k1 k2 k3 kk k5 k6 k7]
              exact cross_divides g1 g2
            have Hr1 := Lib.hid hr1
            have Hr2 := Lib.hid hr2
            have Hr := Lib.hid hr
            clear hr hr1 hr2
            cases r1 <;> cases r2
            all_goals
              simp only [Bool.or_true, Bool.or_false] at Hr
              refine wp_region_ext _ (by kernel_rfl) (by kernel_rfl) ?_
              repeat (go_big_quiet_step (first
                | (go_at_call 11; first
                    | (with_reducible exact crosses_in _ _ _ _ _ _ _ _ _ _ _ z1 Hr)
                    | (with_reducible exact crosses_in _ _ _ _ _ _ _ _ _ _ _ z2 Hr1)
                    | (with_reducible exact crosses_in _ _ _ _ _ _ _ _ _ _ _ z3 Hr2))))
              refine wpQuiet_nil (fun v => ?_)
              go_wp2
              all_goals go_ret
              all_goals exact ⟨rfl, ext_below hw hw.size _⟩
          · have e1 : 0 ≤ at_ % (y2 - y + 1) := Int.emod_nonneg _ (by omega)
            have e2 : at_ % (y2 - y + 1) ≤ y2 - y := by have := Int.emod_lt_of_pos at_ (show 0 < y2 - y + 1 by omega); omega
            have e3 : 0 < y2 - y + 1 := by omega
            have kk : co (y + at_ % (y2 - y + 1)) := by unfold co at *; omega
            have g1 : y ≤ y + at_ % (y2 - y + 1) := by omega
            have g2 : y + at_ % (y2 - y + 1) ≤ y2 := by omega
            have ll := k5
            have lh := k7
            unfold co at ll lh
            obtain ⟨ll, ll'⟩ := ll
            obtain ⟨lh, lh'⟩ := lh
            go_wp2_with fail
            go_quiet (fail)
            go_upto_region 10 with (fail)
            generalize y + at_ % (y2 - y + 1) = k at *
            refine forget (fun W => Below w.heap.size w W ∧ Bk W b4 #[.int .i64 ax, .int .i64 ay] 23 ∧ Bk W b5 #[.int .i64 bx, .int .i64 b_y] 23 ∧ Bk W b6 #[.int .i64 x, .int .i64 y, .int .i64 x2, .int .i64 y2] 25 ∧
                Bk W s #[.int .i64 x, .int .i64 k, .int .i64 x2, .int .i64 y2] 25 ∧ Bk W (s + 1) #[.int .i64 x, .int .i64 y, .int .i64 x2, .int .i64 k] 25) ⟨?_, ?_, ?_, ?_, ?_, ?_⟩ ?_
            · exact ((below_drewN hw _).setCell (by simp; omega) _).setCell (by simp; omega) _
            · exact ((b4k.drewN _).far (by simp; omega) _).far (by simp; omega) _
            · exact ((b5k.drewN _).far (by simp; omega) _).far (by simp; omega) _
            · exact ((b6k.drewN _).far (by simp; omega) _).far (by simp; omega) _
            · first
                | exact ((b7k.drewN _).set_ _ _).far (by simp) _
                | exact ((b7k.drewN _).far (by simp) _).set_ _ _
            · first
                | exact ((b8k.drewN _).far (by simp) _).set_ _ _
                | exact ((b8k.drewN _).set_ _ _).far (by simp) _
            clear hw b4k b5k b6k b7k b8k c6 c7 f7 c8 f8
            rintro w8 ⟨hw, b4k, b5k, b6k, b7k, b8k⟩
            have c4 := b4k.cell
            have c5 := b5k.cell
            have c6 := b6k.cell
            have c7 := b7k.cell
            have c8 := b8k.cell
            have l4 := b4k.lt
            have l5 := b5k.lt
            have l6 := b6k.lt
            have l7 := b7k.lt
            have l8 := b8k.lt
            clear b4k b5k b6k b7k b8k
            have z2 := co_eight k0 k1 k2 k3 k4 k5 k6 kk
            have z3 := co_eight k0 k1 k2 k3 k4 kk k6 k7
            obtain ⟨r1, hr1⟩ : ∃ r, crossB ax ay bx b_y x y x2 k = r := ⟨_, rfl⟩
            obtain ⟨r2, hr2⟩ : ∃ r, crossB ax ay bx b_y x k x2 y2 = r := ⟨_, rfl⟩
            have hr : crossB ax ay bx b_y x y x2 y2 = (r1 || r2) := by
              rw [← hr1, ← hr2, Bool.eq_iff_iff, Bool.or_eq_true, cross_iff k0 k1 k2 k3 k4 k5 k6 k7, cross_iff k0 k1 k2 k3 k4 k5 k6 kk, cross_iff k0 k1 k2 k3 k4 kk k6 k7]
              exact cross_divides_y g1 g2
            have Hr1 := Lib.hid hr1
            have Hr2 := Lib.hid hr2
            have Hr := Lib.hid hr
            clear hr hr1 hr2
            cases r1 <;> cases r2
            all_goals
              simp only [Bool.or_true, Bool.or_false] at Hr
              refine wp_region_ext _ (by kernel_rfl) (by kernel_rfl) ?_
              repeat (go_big_quiet_step (first
                | (go_at_call 11; first
                    | (with_reducible exact crosses_in _ _ _ _ _ _ _ _ _ _ _ z1 Hr)
                    | (with_reducible exact crosses_in _ _ _ _ _ _ _ _ _ _ _ z2 Hr1)
                    | (with_reducible exact crosses_in _ _ _ _ _ _ _ _ _ _ _ z3 Hr2))))
              refine wpQuiet_nil (fun v => ?_)
              go_wp2
              all_goals go_ret
              all_goals exact ⟨rfl, ext_below hw hw.size _⟩
          · have e1 : 0 ≤ at_ % (x2 - x + 1) := Int.emod_nonneg _ (by omega)
            have e2 : at_ % (x2 - x + 1) ≤ x2 - x := by have := Int.emod_lt_of_pos at_ (show 0 < x2 - x + 1 by omega); omega
            have e3 : 0 < x2 - x + 1 := by omega
            have kk : co (x + at_ % (x2 - x + 1)) := by unfold co at *; omega
            have g1 : x ≤ x + at_ % (x2 - x + 1) := by omega
            have g2 : x + at_ % (x2 - x + 1) ≤ x2 := by omega
            have ll := k4
            have lh := k6
            unfold co at ll lh
            obtain ⟨ll, ll'⟩ := ll
            obtain ⟨lh, lh'⟩ := lh
            go_wp2_with fail
            go_quiet (fail)
            go_upto_region 10 with (fail)
            generalize x + at_ % (x2 - x + 1) = k at *
            refine forget (fun W => Below w.heap.size w W ∧ Bk W b4 #[.int .i64 ax, .int .i64 ay] 23 ∧ Bk W b5 #[.int .i64 bx, .int .i64 b_y] 23 ∧ Bk W b6 #[.int .i64 x, .int .i64 y, .int .i64 x2, .int .i64 y2] 25 ∧
                Bk W s #[.int .i64 k, .int .i64 y, .int .i64 x2, .int .i64 y2] 25 ∧ Bk W (s + 1) #[.int .i64 x, .int .i64 y, .int .i64 k, .int .i64 y2] 25) ⟨?_, ?_, ?_, ?_, ?_, ?_⟩ ?_
            · exact ((below_drewN hw _).setCell (by simp; omega) _).setCell (by simp; omega) _
            · exact ((b4k.drewN _).far (by simp; omega) _).far (by simp; omega) _
            · exact ((b5k.drewN _).far (by simp; omega) _).far (by simp; omega) _
            · exact ((b6k.drewN _).far (by simp; omega) _).far (by simp; omega) _
            · first
                | exact ((b7k.drewN _).set_ _ _).far (by simp) _
                | exact ((b7k.drewN _).far (by simp) _).set_ _ _
            · first
                | exact ((b8k.drewN _).far (by simp) _).set_ _ _
                | exact ((b8k.drewN _).set_ _ _).far (by simp) _
            clear hw b4k b5k b6k b7k b8k c6 c7 f7 c8 f8
            rintro w8 ⟨hw, b4k, b5k, b6k, b7k, b8k⟩
            have c4 := b4k.cell
            have c5 := b5k.cell
            have c6 := b6k.cell
            have c7 := b7k.cell
            have c8 := b8k.cell
            have l4 := b4k.lt
            have l5 := b5k.lt
            have l6 := b6k.lt
            have l7 := b7k.lt
            have l8 := b8k.lt
            clear b4k b5k b6k b7k b8k
            have z2 := co_eight k0 k1 k2 k3 k4 k5 kk k7
            have z3 := co_eight k0 k1 k2 k3 kk k5 k6 k7
            obtain ⟨r1, hr1⟩ : ∃ r, crossB ax ay bx b_y x y k y2 = r := ⟨_, rfl⟩
            obtain ⟨r2, hr2⟩ : ∃ r, crossB ax ay bx b_y k y x2 y2 = r := ⟨_, rfl⟩
            have hr : crossB ax ay bx b_y x y x2 y2 = (r1 || r2) := by
              rw [← hr1, ← hr2, Bool.eq_iff_iff, Bool.or_eq_true, cross_iff k0 k1 k2 k3 k4 k5 k6 k7, cross_iff k0 k1 k2 k3 k4 k5 kk k7, cross_iff k0 k1 k2 k3 kk k5 k6 k7]
              exact cross_divides g1 g2
            have Hr1 := Lib.hid hr1
            have Hr2 := Lib.hid hr2
            have Hr := Lib.hid hr
            clear hr hr1 hr2
            cases r1 <;> cases r2
            all_goals
              simp only [Bool.or_true, Bool.or_false] at Hr
              refine wp_region_ext _ (by kernel_rfl) (by kernel_rfl) ?_
              repeat (go_big_quiet_step (first
                | (go_at_call 11; first
                    | (with_reducible exact crosses_in _ _ _ _ _ _ _ _ _ _ _ z1 Hr)
                    | (with_reducible exact crosses_in _ _ _ _ _ _ _ _ _ _ _ z2 Hr1)
                    | (with_reducible exact crosses_in _ _ _ _ _ _ _ _ _ _ _ z3 Hr2))))
              refine wpQuiet_nil (fun v => ?_)
              go_wp2
              all_goals go_ret
              all_goals exact ⟨rfl, ext_below hw hw.size _⟩
end Go.Proofs.Ytbphalaajhnnjaa
