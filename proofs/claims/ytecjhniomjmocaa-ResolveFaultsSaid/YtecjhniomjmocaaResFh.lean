/- Layer 12 (resolve): whether an item has a test with an offset, as the law asks. -/
import Derived.Test.YtecjhniomjmocaaResFp
import Derived.Test.YtecjhniomjmocaaResW
namespace Go.Proofs.Ytecjhniomjmocaa
open Go.RowKit Go.ChangeAt
set_option linter.unusedVariables false
set_option linter.unusedSimpArgs false
attribute [local go_sem] ext_cell ext_frozen lt_ext ext_drew

def hasW (ws : List (List Ts)) (n : Int) : Bool := ws.any fun l => l.any fun t => decide (t.2.2.2.2 = n)
set_option maxRecDepth 100000 in
set_option maxHeartbeats 4000000 in
theorem has_any (kd : Int) (inm : ByteArray) (AW : Option Addr) (ws : List (List Ts)) (cw : Nat) (iN rn rd sn sd iatt at' : Int) (w : World) (B : Nat) (hW : Elems (tSlice tTs) w B AW ws) (hB : B ≤ w.heap.size) (hl : ws.length ≤ 9223372036854775807)
    (r : Bool) (hr : hasW ws at' = r) :
    Calls Try.prog 24 #[.agg #[.int .i64 kd, .string inm, .slice AW ws.length cw, .int .i64 iN, .int .i64 rn, .int .i64 rd, .int .i64 sn, .int .i64 sd, .int .i64 iatt], .int .i64 at'] w fun e w' => e = .returned (.bool r) ∧ Below w.heap.size w w' := by
  have HH := Lib.hid (And.intro hW hr)
  clear hW hr
  go_enter Try.func24, Try.ntmps24
  go_upto_region 1 with (fail)
  refine forget (fun X => Below w.heap.size w X ∧ Bk X w.heap.size #[.int .i64 kd, .string inm, .slice AW ws.length cw, .int .i64 iN, .int .i64 rn, .int .i64 rd, .int .i64 sn, .int .i64 sd, .int .i64 iatt] 57) ⟨by (repeat (first | with_reducible exact Below.refl _ _ | with_reducible assumption | with_reducible refine Below.alloc0 ?_ _ | with_reducible refine Below.ext0 ?_ _ | with_reducible refine Below.drew ?_ | with_reducible refine below_drewN ?_ _ | (with_reducible refine Below.setCell (hp := ?hp) ?_ _; case hp => (first | (simp; done) | (simp; omega))))), Bk.new w _ _⟩ ?_
  rintro X ⟨hX, b0⟩
  have HX := Lib.hid (And.intro hX b0)
  clear hX b0
  go_wp2_with fail
  go_loopw [5, 6] (fun i _ wr => ∃ (k : Nat), k ≤ ws.length ∧ i = .int .i64 k ∧ (ws.take k).any (fun l => l.any fun t => decide (t.2.2.2.2 = at')) = false ∧ Below X.heap.size X wr) (fun i _ _ => ws.length - (intOf i).toNat)
  case atStart => exact ⟨0, by omega, rfl, rfl, Below.refl _ _⟩
  case round =>
    obtain ⟨k, hk, rfl, hany, hwr⟩ := hrel
    generalize wr = wA at *
    have hzA := hwr.size
    have c0 : wA.cell? ⟨w.heap.size, 2, none⟩ = some (.slice AW ws.length cw) := (HX.out.2.below hwr).cell 2
    have l0 := (HX.out.2.below hwr).lt
    by_cases hlt : k < ws.length
    · obtain ⟨b, off, A1, l, c1, rfl, hb, Hk, g0, gl, HE⟩ := pick_and (HH.out.1.keep ((Below.trans0 HX.out.1 hwr).mono hB) (Nat.le_refl _)) hlt
      have hkl : (k : Int) < (ws.length : Int) := by omega
      have bw : b < wA.heap.size := by have := HX.out.1.size; omega
      have hat := any_take (fun l => l.any fun t => decide (t.2.2.2.2 = at')) Hk.out
      rw [hany, Bool.false_or] at hat
      have HA := Lib.hid (And.intro hat hwr)
      clear hat hany hwr
      go_wp2_with fail
      go_loopw [6] (fun j wr => ∃ (q : Nat), q ≤ l.length ∧ j = .int .i64 q ∧ (l.take q).any (fun t => decide (t.2.2.2.2 = at')) = false ∧ Below wA.heap.size wA wr) (fun j _ => l.length - (intOf j).toNat)
      case atStart => exact ⟨0, by omega, rfl, rfl, Below.refl _ _⟩
      case round =>
        obtain ⟨q, hq, rfl, hany2, hw2⟩ := hrel
        generalize wr = w2 at *
        have hz2 := hw2.size
        have hXw := HA.out.2.trans (hw2.mono hzA)
        have B0 := HX.out.2.below hXw
        have e0 : w2.cell? ⟨w.heap.size, 2, none⟩ = some (.slice (some ⟨b, off, none⟩) ws.length cw) := B0.cell 2
        have e1 : w2.cell? ⟨b, off + k, none⟩ = some (.slice A1 l.length c1) := (hw2.cell (p := ⟨_, _, none⟩) bw).trans g0
        have m0 := B0.lt
        have mb : b < w2.heap.size := by omega
        have HB := Lib.hid hw2
        clear B0 hw2 hXw
        by_cases hlq : q < l.length
        · obtain ⟨tb, to', nm, op, nn, n, att, rfl, htb, Hq, t0, t1, t2, t3, t4, tn1, tn2, tf1, tf2, tf3⟩ := pick_ts (HE.out.keep ((HB.out).mono (by have := HX.out.1.size; omega)) (Nat.le_refl _)) hlq
          have hql : (q : Int) < (l.length : Int) := by omega
          have tbw : tb < w2.heap.size := by have := HX.out.1.size; omega
          have hst := any_take (fun t : Ts => decide (t.2.2.2.2 = at')) Hq.out
          rw [hany2, Bool.false_or] at hst
          clear hany2
          by_cases heq : att = at'
          · have HR := Lib.hid (show r = true by
              rw [← HH.out.2]
              unfold hasW
              rw [List.any_eq_true]
              refine ⟨l, List.mem_of_getElem? Hk.out, ?_⟩
              rw [List.any_eq_true]
              exact ⟨_, List.mem_of_getElem? Hq.out, by simpa using heq⟩)
            have hq1 : (att == at') = true := by simpa using heq
            clear heq hst
            go_wp2_with fail
            go_ret
            exact ⟨ret_bool HR.out.symm, Below.trans0 HX.out.1 (HA.out.2.trans (HB.out.mono hzA))⟩
          · have hq1 : (att == at') = false := by simpa using heq
            have Hst := Lib.hid (show (l.take (q + 1)).any (fun t : Ts => decide (t.2.2.2.2 = at')) = false by rw [hst]; simpa using heq)
            clear hst heq
            go_wp2_with fail
            go_roundw
            case rel => exact ⟨q + 1, by omega, by go_num, Hst.out, HB.out⟩
            case measure => simp [intOf]; omega
        · obtain rfl : q = l.length := by omega
          rw [List.take_length] at hany2
          have HR := Lib.hid hany2
          clear hany2
          go_wp2_with fail
          go_roundw
          case rel => exact ⟨k + 1, by omega, by go_num, by rw [HA.out.1]; exact HR.out, HA.out.2.trans (HB.out.mono hzA)⟩
          case measure => simp [intOf]; omega
    · obtain rfl : k = ws.length := by omega
      rw [List.take_length] at hany
      have HR := Lib.hid (show r = false by rw [← HH.out.2]; exact hany)
      have HA := Lib.hid hwr
      clear hany hwr
      go_wp2_with fail
      go_ret
      exact ⟨ret_bool HR.out.symm, Below.trans0 HX.out.1 HA.out⟩
end Go.Proofs.Ytecjhniomjmocaa
