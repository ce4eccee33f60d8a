/- Layer 12 (resolve): whether the condition of an item holds for facts, as the law asks. -/
import Derived.Test.YtecjhniomjmocaaResRd
namespace Go.Proofs.Ytecjhniomjmocaa
open Go.RowKit Go.ChangeAt
set_option linter.unusedVariables false
set_option linter.unusedSimpArgs false
attribute [local go_sem] ext_cell ext_frozen lt_ext ext_drew

def metB (L : Nm) (f : Fc) (ws : List (List Ts)) : Bool := (ws.any fun l => l.all (tstB L f)) || decide (ws = [])
set_option maxRecDepth 100000 in
set_option maxHeartbeats 4000000 in
theorem met_any (kd : Int) (inm : ByteArray) (AW : Option Addr) (ws : List (List Ts)) (cw : Nat) (iN rn rd sn sd iatt : Int) (hn : ByteArray) (x y : Int) (AH : Option Addr) (lh : List Le) (ch : Nat) (f : Fc) (w : World) (B : Nat) (hW : Elems (tSlice tTs) w B AW ws) (h : Elems tLe w B AH lh) (hB : B ≤ w.heap.size) (hl : ws.length ≤ 9223372036854775807) (hm1 : lh.length ≤ 10) (hm2 : ∀ l ∈ lh, l.2.2.1.length + l.2.2.2.1.length ≤ 50) (L : Nm) (hL : (lvlsN lh, blksN lh) = L) (h1 : L.1.length ≤ 1000000) (h2 : L.2.length ≤ 1000000) (hf : f.length = 10)
    (r : Bool) (hr : metB L f ws = r) :
    Calls Try.prog 20 #[.agg #[.int .i64 kd, .string inm, .slice AW ws.length cw, .int .i64 iN, .int .i64 rn, .int .i64 rd, .int .i64 sn, .int .i64 sd, .int .i64 iatt], .agg #[.string hn, .int .i64 x, .int .i64 y, .slice AH lh.length ch], .agg (fcV f)] w fun e w' => e = .returned (.bool r) ∧ Below w.heap.size w w' := by
  have HH := Lib.hid (And.intro hW (And.intro hr hf))
  have HT := Lib.hid (fun (nm : ByteArray) (op : Int) (nn : ByteArray) (n att : Int) (X : World) (hX : Below w.heap.size w X) (r : Bool) (hr : tstB L f (nm, op, nn, n, att) = r) => tested_any nm op nn n att hn x y AH lh ch f X B (h.keep (hX.mono hB) (Nat.le_refl _)) (by have := hX.size; omega) hm1 hm2 L hL h1 h2 hf r hr)
  clear hW hr h hm2 hL
  go_enter Try.func20, Try.ntmps20
  go_upto_region 1 with (fail)
  refine forget (fun X => Below w.heap.size w X ∧ Bk X w.heap.size #[.int .i64 kd, .string inm, .slice AW ws.length cw, .int .i64 iN, .int .i64 rn, .int .i64 rd, .int .i64 sn, .int .i64 sd, .int .i64 iatt] 57 ∧ Bk X (w.heap.size + 1) #[.string hn, .int .i64 x, .int .i64 y, .slice AH lh.length ch] 29 ∧ Bk X (w.heap.size + 1 + 1) (fcV f) 48) ⟨by (repeat (first | with_reducible exact Below.refl _ _ | with_reducible assumption | with_reducible refine Below.alloc0 ?_ _ | with_reducible refine Below.ext0 ?_ _ | with_reducible refine Below.drew ?_ | with_reducible refine below_drewN ?_ _ | (with_reducible refine Below.setCell (hp := ?hp) ?_ _; case hp => (first | (simp; done) | (simp; omega))))), ((Bk.new w _ _).alloc _).alloc _, (bk_new_at _ _ _ _ (by simp)).alloc _, bk_new_at _ _ _ _ (by simp)⟩ ?_
  rintro X ⟨hX, b0, b1, b2⟩
  have HX := Lib.hid (And.intro hX (And.intro b0 (And.intro b1 b2)))
  clear hX b0 b1 b2
  go_wp2_with fail
  go_loopw [7, 8, 9] (fun i _ _ wr => ∃ (k : Nat), k ≤ ws.length ∧ i = .int .i64 k ∧ (ws.take k).any (fun l => l.all (tstB L f)) = false ∧ Below X.heap.size X wr) (fun i _ _ _ => ws.length - (intOf i).toNat)
  case atStart => exact ⟨0, by omega, rfl, rfl, Below.refl _ _⟩
  case round =>
    obtain ⟨k, hk, rfl, hany, hwr⟩ := hrel
    generalize wr = wA at *
    have hzA := hwr.size
    have c0 : wA.cell? ⟨w.heap.size, 2, none⟩ = some (.slice AW ws.length cw) := (HX.out.2.1.below hwr).cell 2
    have l0 := (HX.out.2.1.below hwr).lt
    by_cases hlt : k < ws.length
    · obtain ⟨b, off, A1, l, c1, rfl, hb, Hk, g0, gl, HE⟩ := pick_and (HH.out.1.keep ((Below.trans0 HX.out.1 hwr).mono hB) (Nat.le_refl _)) hlt
      have hkl : (k : Int) < (ws.length : Int) := by omega
      have bw : b < wA.heap.size := by have := HX.out.1.size; omega
      have hat := any_take (fun l => l.all (tstB L f)) Hk.out
      rw [hany, Bool.false_or] at hat
      have HA := Lib.hid (And.intro hat hwr)
      clear hat hany hwr
      go_wp2_with fail
      go_loopw [8, 9] (fun b j wr => ∃ (q : Nat), q ≤ l.length ∧ j = .int .i64 q ∧ b = .bool ((l.take q).all (tstB L f)) ∧ Below wA.heap.size wA wr) (fun _ j _ => l.length - (intOf j).toNat)
      case atStart => exact ⟨0, by omega, rfl, rfl, Below.refl _ _⟩
      case round =>
        obtain ⟨q, hq, rfl, rfl, hw2⟩ := hrel
        generalize wr = w2 at *
        have hz2 := hw2.size
        have hXw := HA.out.2.trans (hw2.mono hzA)
        have B0 := HX.out.2.1.below hXw
        have B1 := HX.out.2.2.1.below hXw
        have B2 := HX.out.2.2.2.below hXw
        have e0 : w2.cell? ⟨w.heap.size, 2, none⟩ = some (.slice (some ⟨b, off, none⟩) ws.length cw) := B0.cell 2
        have e1 : w2.cell? ⟨b, off + k, none⟩ = some (.slice A1 l.length c1) := (hw2.cell (p := ⟨_, _, none⟩) bw).trans g0
        have m0 := B0.lt
        have m1 := B1.lt
        have m2 := B2.lt
        have mb : b < w2.heap.size := by omega
        have d0 := B1.cell
        have HB := Lib.hid (And.intro B2 hw2)
        clear B0 B1 B2 hw2
        by_cases hlq : q < l.length
        · obtain ⟨tb, to', nm, op, nn, n, att, rfl, htb, Hq, t0, t1, t2, t3, t4, tn1, tn2, tf1, tf2, tf3⟩ := pick_ts (HE.out.keep ((HB.out.2).mono (by have := HX.out.1.size; omega)) (Nat.le_refl _)) hlq
          have hql : (q : Int) < (l.length : Int) := by omega
          have tbw : tb < w2.heap.size := by have := HX.out.1.size; omega
          have hst := all_take (tstB L f) Hq.out
          obtain ⟨cur, hcur⟩ : ∃ c, (l.take q).all (tstB L f) = c := ⟨_, rfl⟩
          rw [hcur] at hst ⊢
          obtain ⟨tv, htv⟩ : ∃ v, tstB L f (nm, op, nn, n, att) = v := ⟨_, rfl⟩
          rw [htv] at hst
          have Hst := Lib.hid (And.intro hst htv)
          clear hst hcur htv
          cases cur
          · go_upto_region 8 with (fail)
            refine wp_region_ext w2 (by kernel_rfl) (by kernel_rfl) ?_
            repeat (go_big_quiet_step (fail))
            refine wpQuiet_nil (fun v => ?_)
            go_wp2_with fail
            go_roundw
            case rel => exact ⟨q + 1, by omega, by go_num, by rw [Hst.out.1]; rfl, HB.out.2.trans ((below_ext w2 v).mono hz2)⟩
            case measure => simp [intOf]; omega
          · go_upto_region 8 with (fail)
            refine wp_region_ext w2 (by kernel_rfl) (by kernel_rfl) ?_
            iterate 11 (go_big_quiet_step (fail))
            go_big_quiet_want
            refine quiet_load_at _ _ rfl (w.heap.size + 1 + 1) 0 rfl (fcV f) _ (fun w9 hw9 j u hu => by obtain ⟨u9, rfl⟩ := hw9; rw [ext_cell _ _ m2, Nat.zero_add, HB.out.1.cell]; exact hu) Try.underlying48 rfl (by rw [fcV_size HH.out.2.2]; kernel_rfl) ?_
            go_simp
            go_big_quiet_on
            go_big_quiet_step ((go_at_call 32; exact Calls.in_ext (HT.out nm op nn n att _ (Below.ext0 (Below.trans0 HX.out.1 (HA.out.2.trans (HB.out.2.mono hzA))) _) tv Hst.out.2)))
            repeat (go_big_quiet_step (fail))
            refine wpQuiet_nil (fun v => ?_)
            go_wp2_with fail
            go_roundw
            case rel => exact ⟨q + 1, by omega, by go_num, by rw [Hst.out.1]; rfl, HB.out.2.trans ((below_ext w2 v).mono hz2)⟩
            case measure => simp [intOf]; omega
        · obtain rfl : q = l.length := by omega
          rw [List.take_length]
          cases hall : l.all (tstB L f) with
          | true =>
            have HR := Lib.hid (show r = true by
              rw [← HH.out.2.1]
              unfold metB
              rw [List.any_eq_true.2 ⟨l, List.mem_of_getElem? Hk.out, hall⟩, Bool.true_or])
            clear hall
            go_wp2_with fail
            go_ret
            exact ⟨ret_bool HR.out.symm, Below.trans0 HX.out.1 (HA.out.2.trans (HB.out.2.mono hzA))⟩
          | false =>
            have HR := Lib.hid hall
            clear hall
            go_wp2_with fail
            go_roundw
            case rel => exact ⟨k + 1, by omega, by go_num, by rw [HA.out.1]; exact HR.out, HA.out.2.trans (HB.out.2.mono hzA)⟩
            case measure => simp [intOf]; omega
    · obtain rfl : k = ws.length := by omega
      rw [List.take_length] at hany
      by_cases hnil : ws = []
      · have HR := Lib.hid (show r = true by rw [← HH.out.2.1]; unfold metB; rw [hany]; simp [hnil])
        have hl0 : ((ws.length : Int) == 0) = true := by simp [hnil]
        have HA := Lib.hid hwr
        clear hany hwr hnil
        go_wp2_with fail
        go_ret
        exact ⟨ret_bool HR.out.symm, Below.trans0 HX.out.1 HA.out⟩
      · have HR := Lib.hid (show r = false by rw [← HH.out.2.1]; unfold metB; rw [hany]; simp [hnil])
        have hl0 : ((ws.length : Int) == 0) = false := by
          have : ws.length ≠ 0 := fun h => hnil (List.length_eq_zero_iff.1 h)
          simpa using (show ¬ (ws.length : Int) = 0 by omega)
        have HA := Lib.hid hwr
        clear hany hwr hnil
        go_wp2_with fail
        go_ret
        exact ⟨ret_bool HR.out.symm, Below.trans0 HX.out.1 HA.out⟩
end Go.Proofs.Ytecjhniomjmocaa
