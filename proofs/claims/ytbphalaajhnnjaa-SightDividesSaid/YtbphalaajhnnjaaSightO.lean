/- SightMoves: Crosses is the same after all was moved; for every numbers and distances; no condition. -/
import Derived.Test.YtbphalaajhnnjaaSightN
namespace Go.Proofs.Ytbphalaajhnnjaa
open Go.RowKit Go.ChangeAt
set_option linter.unusedVariables false
attribute [local go_sem] ext_cell ext_frozen lt_ext ext_drew

/-- The array after k rounds. -/
def movL (ns : List Int) (k : Nat) : Array Value := ((List.range 8).map fun j => Value.int .i64 (if j < k then ns.getD j 0 % 5001 else 0)).toArray
theorem movL_set (ns : List Int) {k : Nat} (hk : k < 8) : (movL ns k).setIfInBounds k (.int .i64 (ns.getD k 0 % 5001)) = movL ns (k + 1) := by
  rcases (show k = 0 ∨ k = 1 ∨ k = 2 ∨ k = 3 ∨ k = 4 ∨ k = 5 ∨ k = 6 ∨ k = 7 by omega) with rfl | rfl | rfl | rfl | rfl | rfl | rfl | rfl <;> rfl
theorem movL_some (ns : List Int) {k j : Nat} (hj : j < 8) : (movL ns k)[j]? = some (Value.int .i64 (if j < k then ns.getD j 0 % 5001 else 0)) := by
  simp [movL, hj]

set_option maxRecDepth 100000 in
set_option maxHeartbeats 2000000 in
theorem moves_walk (ns : List Int) (d1 d2 : Int) (w : World) (hl : ns.length = 8) (hn : ∀ x ∈ ns, 0 ≤ x ∧ x ≤ 65535) (h1 : 0 ≤ d1 ∧ d1 ≤ 65535) (h2 : 0 ≤ d2 ∧ d2 ≤ 65535) :
    Calls Try.prog 5 #[.agg (ns.map (Value.int .u16)).toArray, .int .u16 d1, .int .u16 d2] w
      fun e w' => e = .returned (.bool true) ∧ Below w.heap.size w w' := by
  obtain ⟨n0, n1, n2, n3, n4, n5, n6, n7, hns⟩ := eight ns hl
  have Hns := Lib.hid hns
  have hb0 : ∀ k, k < 8 → ∃ x, ns[k]? = some x ∧ ns.getD k 0 = x ∧ 0 ≤ x ∧ x ≤ 65535 := fun k hk => by
    have e := List.getElem?_eq_getElem (l := ns) (by omega : k < ns.length)
    exact ⟨ns[k], e, by simp [List.getD, e], hn _ (List.getElem_mem _)⟩
  have HB := Lib.hid hb0
  clear hb0 hn hns
  generalize hA : (ns.map (Value.int .u16)).toArray = A
  have HA := Lib.hid hA
  clear hA
  have hA8 : A.size = 8 := by rw [← HA.out]; simpa using hl
  obtain ⟨A⟩ := A
  obtain ⟨a0, a1, a2, a3, a4, a5, a6, a7, rfl⟩ := eight A (by simpa using hA8)
  clear hA8 hl
  go_enter Try.func5, Try.ntmps5
  go_wp2_with fail
  refine (head_any _).mono ?_
  rintro e w1 ⟨rfl, hb⟩
  have bA := (Bk.new w #[a0, a1, a2, a3, a4, a5, a6, a7] 35).below hb
  have hw := ((Below.refl _ w).alloc (Nat.le_refl _) _).trans (hb.mono (by simp))
  have lA := bA.lt
  clear hb
  go_wp2_with fail
  go_loopw [9] (fun i wr => ∃ k : Nat, k ≤ 8 ∧ i = .int .i64 k ∧ Bk wr w.heap.size #[a0, a1, a2, a3, a4, a5, a6, a7] 35 ∧ Bk wr w1.heap.size (movL ns k) 40 ∧ Below w.heap.size w wr) (fun i _ => 8 - (intOf i).toNat)
  case atStart => exact ⟨0, by omega, rfl, bA.alloc _, Bk.new w1 _ _, hw.alloc hw.size _⟩
  case round =>
    obtain ⟨k, hk, rfl, bA', bL, hw'⟩ := hrel
    clear bA hw
    by_cases h8 : k < 8
    · obtain ⟨x, hx, hx', hx0, hx1⟩ := HB.out k h8
      have cA : wr.cell? ⟨w.heap.size, k, none⟩ = some (.int .u16 x) := by
        have eA : (#[a0, a1, a2, a3, a4, a5, a6, a7] : Array Value) = (ns.map (Value.int .u16)).toArray := HA.out.symm
        rw [bA'.cell k, eA]
        simp [hx]
      have cL : wr.cell? ⟨w1.heap.size, k, none⟩ = some (.int .i64 (if k < k then ns.getD k 0 % 5001 else 0)) := by
        rw [bL.cell k]; exact movL_some ns h8
      have fL := bL.free
      have Hx := Lib.hid hx'
      clear hx hx'
      have k0 : (0 : Int) ≤ k := by omega
      have k8 : (k : Int) < 8 := by omega
      go_wp2
      go_roundw
      case rel =>
        refine ⟨k + 1, by omega, by go_num, bA'.far (by simpa using (Nat.ne_of_lt lA)) _, ?_, hw'.setCell (by simp; omega) _⟩
        have := bL.set_ k (.int .i64 (ns.getD k 0 % 5001))
        rw [movL_set ns h8, Hx.out] at this
        exact this
      case measure => simp [intOf]; omega
    · obtain rfl : k = 8 := by omega
      have cL : ∀ j, j < 8 → wr.cell? ⟨w1.heap.size, j, none⟩ = some (.int .i64 (ns.getD j 0 % 5001)) := fun j hj => by
        rw [bL.cell j, movL_some ns hj, if_pos hj]
      have e0 := cL 0 (by omega)
      have e1 := cL 1 (by omega)
      have e2 := cL 2 (by omega)
      have e3 := cL 3 (by omega)
      have e4 := cL 4 (by omega)
      have e5 := cL 5 (by omega)
      have e6 := cL 6 (by omega)
      have e7 := cL 7 (by omega)
      rw [Hns.out] at e0 e1 e2 e3 e4 e5 e6 e7
      simp only [List.getD_cons_zero, List.getD_cons_succ] at e0 e1 e2 e3 e4 e5 e6 e7
      have lL := bL.lt
      clear cL bL bA' HB HA Hns
      have m0 : 0 ≤ n0 % 5001 ∧ n0 % 5001 ≤ 5000 := by omega
      have m1 : 0 ≤ n1 % 5001 ∧ n1 % 5001 ≤ 5000 := by omega
      have m2 : 0 ≤ n2 % 5001 ∧ n2 % 5001 ≤ 5000 := by omega
      have m3 : 0 ≤ n3 % 5001 ∧ n3 % 5001 ≤ 5000 := by omega
      have m4 : 0 ≤ n4 % 5001 ∧ n4 % 5001 ≤ 5000 := by omega
      have m5 : 0 ≤ n5 % 5001 ∧ n5 % 5001 ≤ 5000 := by omega
      have m6 : 0 ≤ n6 % 5001 ∧ n6 % 5001 ≤ 5000 := by omega
      have m7 : 0 ≤ n7 % 5001 ∧ n7 % 5001 ≤ 5000 := by omega
      generalize n0 % 5001 = ax at *
      generalize n1 % 5001 = ay at *
      generalize n2 % 5001 = bx at *
      generalize n3 % 5001 = b_y at *
      generalize n4 % 5001 = x at *
      generalize n5 % 5001 = y at *
      generalize n6 % 5001 = x2 at *
      generalize n7 % 5001 = y2 at *
      go_upto_region 8 with (fail)
      have md1 : 0 ≤ d1 % 5001 ∧ d1 % 5001 ≤ 5000 := by omega
      have md2 : 0 ≤ d2 % 5001 ∧ d2 % 5001 ≤ 5000 := by omega
      clear h1 h2
      generalize d1 % 5001 = dx at *
      generalize d2 % 5001 = dy at *
      obtain ⟨r, hr⟩ : ∃ r, crossB ax ay bx b_y x y x2 y2 = r := ⟨_, rfl⟩
      have Hr := Lib.hid hr
      have Hm : Hid (crossB (ax + dx) (ay + dy) (bx + dx) (b_y + dy) (x + dx) (y + dy) (x2 + dx) (y2 + dy) = r) := (crossB_congr ⟨by omega, by omega⟩ ⟨by omega, by omega⟩ ⟨by omega, by omega⟩ ⟨by omega, by omega⟩ ⟨by omega, by omega⟩ ⟨by omega, by omega⟩ ⟨by omega, by omega⟩ ⟨by omega, by omega⟩
        ⟨by omega, by omega⟩ ⟨by omega, by omega⟩ ⟨by omega, by omega⟩ ⟨by omega, by omega⟩ ⟨by omega, by omega⟩ ⟨by omega, by omega⟩ ⟨by omega, by omega⟩ ⟨by omega, by omega⟩ (cross_move ..)).trans hr
      clear hr
      have z1 := co_eight (a := ax) (b := ay) (c := bx) (d := b_y) (e := x) (f := y) (g := x2) (h := y2) ⟨by omega, by omega⟩ ⟨by omega, by omega⟩ ⟨by omega, by omega⟩ ⟨by omega, by omega⟩ ⟨by omega, by omega⟩ ⟨by omega, by omega⟩ ⟨by omega, by omega⟩ ⟨by omega, by omega⟩
      have z2 := co_eight (a := ax + dx) (b := ay + dy) (c := bx + dx) (d := b_y + dy) (e := x + dx) (f := y + dy) (g := x2 + dx) (h := y2 + dy) ⟨by omega, by omega⟩ ⟨by omega, by omega⟩ ⟨by omega, by omega⟩ ⟨by omega, by omega⟩ ⟨by omega, by omega⟩ ⟨by omega, by omega⟩ ⟨by omega, by omega⟩ ⟨by omega, by omega⟩
      refine wp_region_ext _ (by kernel_rfl) (by kernel_rfl) ?_
      repeat (go_big_quiet_step (first
        | (go_at_call 15; exact Calls.in_ext (point_any _ _ _))
        | (go_at_call 17; exact Calls.in_ext (box_any _ _ _ _ _))
        | (go_at_call 11; exact crosses_in r _ _ _ _ _ _ _ _ _ _ z1 Hr)))
      refine wpQuiet_nil (fun v => ?_)
      go_wp2_with fail
      refine wp_region_more _ _ (by kernel_rfl) (by kernel_rfl) ?_
      repeat (go_big_quiet_step (first
        | (go_at_call 15; exact Calls.in_ext (point_any _ _ _))
        | (go_at_call 17; exact Calls.in_ext (box_any _ _ _ _ _))
        | (go_at_call 11; exact crosses_in r _ _ _ _ _ _ _ _ _ _ z2 Hm)))
      refine wpQuiet_nil (fun v => ?_)
      go_wp2_with fail
      go_ret
      exact ⟨rfl, ext_below hw' hw'.size _⟩
set_option maxRecDepth 100000 in
theorem sightMoves_lifted (os : Os) (started : os.Started) (H : Type) (enc : TypeId × Value → H) :
    ReturnsInHanded {} Try.checked os 5 .any (Rows.sightMovesSpec.pre6 enc Try.prog Try.f5 [] false) (Rows.sightMovesSpec.post enc Try.prog Try.f5 false true false false) := by
  refine law_lifted (C := Try.checked) own started (by kernel_rfl) Try.func5 rfl (fun ds hds => ?_) (tb := 4) (by kernel_rfl) Try.underlying4 laidOut (fun t ht => ?_)
    (ChangeSpec.witness6 (enc := enc) (C := Try.checked) false ⟨#[], #[.agg #[.int .u16 0, .int .u16 0, .int .u16 0, .int .u16 0, .int .u16 0, .int .u16 0, .int .u16 0, .int .u16 0], .int .u16 0, .int .u16 0], []⟩ 8 (by kernel_rfl) (by kernel_rfl) (by kernel_rfl) (by kernel_rfl)) ?_
  · rw [Try.params5] at hds
    match ds, hds with
    | [_, _, _], _ => rfl
  · have := List.all_eq_true.1 (show (Try.f5.params.toList.all fun t => Try.prog.readableRec t && decide (t < Try.prog.types.size)) = true by kernel_rfl) t ht
    simp only [Bool.and_eq_true, decide_eq_true_eq] at this
    exact this
  · intro W args g
    rw [Try.params5] at g
    obtain ⟨v0, q0, e0, g0, h0⟩ := g.cons_inv
    obtain ⟨v1, q1, rfl, g1, h1⟩ := h0.cons_inv
    obtain ⟨v2, q2, rfl, g2, h2⟩ := h1.cons_inv
    obtain rfl := h2.nil_inv
    obtain rfl : args = #[v0, v1, v2] := by cases args; simp_all
    obtain ⟨c0, y0, rfl, r0⟩ := g0.arr Try.underlying35 opens8
    obtain ⟨d1, rfl, x1⟩ := g1.u16 Try.underlying34 (by kernel_rfl)
    obtain ⟨d2, rfl, x2⟩ := g2.u16 Try.underlying34 (by kernel_rfl)
    obtain ⟨a1, a2, a3⟩ := arr_cells r0
    obtain rfl : c0 = (y0.map (Value.int .u16)).toArray := by cases c0; simp only at a1; rw [a1]
    exact moves_walk y0 d1 d2 W a2 a3 x1 x2

theorem sightMoves_holds : Rows.SightMovesSaid :=
  OpenClaim.holds_of_wide 5 Try.f5 rfl rfl rfl rfl rfl rfl rfl ⟨rfl, rfl, rfl, rfl, rfl⟩ rfl rfl rfl rfl rfl (by kernel_rfl) Try.func5 (by kernel_rfl)
    (of_decide_eq_true (by kernel_rfl)) (by unfold Func.isWrapper; first | (rw [if_pos (by decide +kernel)]; kernel_rfl) | (rw [if_neg (by decide +kernel)]; exact ⟨rfl, rfl⟩))
    (fun os started H enc _ => sightMoves_lifted os started H enc)
#print axioms sightMoves_holds

end Go.Proofs.Ytbphalaajhnnjaa
