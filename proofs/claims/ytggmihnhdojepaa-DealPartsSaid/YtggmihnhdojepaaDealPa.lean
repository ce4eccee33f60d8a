/- DealParts: what the refunds of two parts take from the artist, the house and the taxes; for every bill and two numbers; no condition. -/
import Derived.Test.YtggmihnhdojepaaDealY
import Derived.Test.YtggmihnhdojepaaDealPp
import Derived.Deep.RegionWith
import Derived.Deep.DeepCutAuto
namespace Go.Proofs.Ytggmihnhdojepaa
open Go.RowKit Go.ChangeAt
set_option linter.unusedVariables false
set_option linter.unusedSimpArgs false
attribute [local go_sem] ext_cell ext_frozen lt_ext ext_drew
set_option maxRecDepth 100000 in
set_option maxHeartbeats 8000000 in
theorem parts_walk (A : Option Addr) (ls : List Ln) (cap : Nat) (total one two : Int) (w : World) (h : Elems tLine w w.heap.size A ls) (hm : ls.length ≤ 9223372036854775807) (ht : fits total) (h1 : 0 ≤ one ∧ one ≤ 4294967295) (h2 : 0 ≤ two ∧ two ≤ 4294967295) :
    Calls Try.prog 8 #[.agg #[.slice A ls.length cap, .int .i64 total], .int .u32 one, .int .u32 two] w fun e w' => e = .returned (.bool true) ∧ Below w.heap.size w w' := by
  have HH := Lib.hid (And.intro h (And.intro ht (And.intro h1 h2)))
  clear h ht
  go_enter Try.func8, Try.ntmps8
  go_wp2_with fail
  refine (head_any _).mono ?_
  rintro e W ⟨rfl, hb⟩
  have hw : Below w.heap.size w W := Below.trans0 (below_self _ _) hb
  have b0 : Bk W w.heap.size #[.slice A ls.length cap, .int .i64 total] 24 := (Bk.new w _ _).below hb
  have hws := hw.size
  have c0 := b0.cell
  have l0 := b0.lt
  have HE := Lib.hid (HH.out.1.keep hw (Nat.le_refl _))
  obtain ⟨q, hq⟩ : ∃ v, fewD ls [] = v := ⟨_, rfl⟩
  have HF := Lib.hid (few_in (A := A) (A2 := none) (B := w.heap.size) (total := total) (cap := cap) (cap2 := 0) (n2 := 0) (Elems.nil (w := W)) hws rfl rfl hm (by omega) q hq)
  have HQ := Lib.hid hq
  have HW := Lib.hid (And.intro hw b0)
  clear hw b0 hb hq
  cases q
  · as_aux_lemma =>
    go_wp2_with (go_at_call 11; refine (HF.out _ ?bel).mono ?_; (case bel => (repeat (first | with_reducible exact Below.refl _ _ | with_reducible assumption | with_reducible refine Below.alloc0 ?_ _ | with_reducible refine Below.ext0 ?_ _ | with_reducible refine Below.drew ?_ | with_reducible refine below_drewN ?_ _ | (with_reducible refine Below.setCell (hp := ?hp) ?_ _; case hp => (first | (simp; done) | (simp; omega)))))); rintro e w' ⟨rfl, hb⟩; (first | (obtain ⟨u, rfl⟩ := ext_more hb; clear hb) | (obtain ⟨u, rfl⟩ := ext_more_alloc hb; clear hb) | (obtain ⟨u, rfl⟩ := ext_of hb; clear hb)))
    go_ret
    exact ⟨rfl, by have hw := HW.out.1; (repeat (first | with_reducible exact Below.refl _ _ | with_reducible assumption | with_reducible refine Below.alloc0 ?_ _ | with_reducible refine Below.ext0 ?_ _ | with_reducible refine Below.drew ?_ | with_reducible refine below_drewN ?_ _ | (with_reducible refine Below.setCell (hp := ?hp) ?_ _; case hp => (first | (simp; done) | (simp; omega)))))⟩
  · obtain ⟨f1, _⟩ := fewD_out HQ.out
    by_cases hneg : total < 0
    · as_aux_lemma =>
      go_wp2_with (go_at_call 11; refine (HF.out _ ?bel).mono ?_; (case bel => (repeat (first | with_reducible exact Below.refl _ _ | with_reducible assumption | with_reducible refine Below.alloc0 ?_ _ | with_reducible refine Below.ext0 ?_ _ | with_reducible refine Below.drew ?_ | with_reducible refine below_drewN ?_ _ | (with_reducible refine Below.setCell (hp := ?hp) ?_ _; case hp => (first | (simp; done) | (simp; omega)))))); rintro e w' ⟨rfl, hb⟩; (first | (obtain ⟨u, rfl⟩ := ext_more hb; clear hb) | (obtain ⟨u, rfl⟩ := ext_more_alloc hb; clear hb) | (obtain ⟨u, rfl⟩ := ext_of hb; clear hb)))
      go_ret
      exact ⟨rfl, by have hw := HW.out.1; (repeat (first | with_reducible exact Below.refl _ _ | with_reducible assumption | with_reducible refine Below.alloc0 ?_ _ | with_reducible refine Below.ext0 ?_ _ | with_reducible refine Below.drew ?_ | with_reducible refine below_drewN ?_ _ | (with_reducible refine Below.setCell (hp := ?hp) ?_ _; case hp => (first | (simp; done) | (simp; omega)))))⟩
    · have hpos : 0 ≤ total := by omega
      obtain ⟨D, hD⟩ : ∃ v, IntKind.i64.wrap (total + 1) = v := ⟨_, rfl⟩
      have hDv : (total ≤ 9223372036854775806 ∧ D = total + 1) ∨ (9223372036854775807 ≤ total ∧ D = -9223372036854775808) := by
        have hf := HH.out.2.1
        unfold fits at hf
        by_cases h3 : total < 9223372036854775807
        · exact .inl ⟨by omega, by rw [← hD]; rw [IntKind.wrap_i64]; omega⟩
        · obtain rfl : total = 9223372036854775807 := by omega
          exact .inr ⟨by omega, by rw [← hD]; decide⟩
      have hD0 : ¬ D = 0 := by omega
      obtain ⟨M, hM⟩ : ∃ v, one.tmod D = v := ⟨_, rfl⟩
      obtain ⟨N, hN⟩ : ∃ v, two.tmod D = v := ⟨_, rfl⟩
      have hDs : 0 < D ∨ D = -9223372036854775808 := by omega
      have hMv : (0 ≤ M ∧ M ≤ 4294967295) ∧ (total ≤ 1000000000 → M ≤ total) := by
        obtain ⟨a1, a2, a3⟩ := rem_bd h1.1 hDs
        rw [hM] at a1 a2 a3
        exact ⟨⟨a1, by omega⟩, fun h => by have := a3 (by omega); omega⟩
      have hNv : (0 ≤ N ∧ N ≤ 4294967295) ∧ (total ≤ 1000000000 → N ≤ total) := by
        obtain ⟨a1, a2, a3⟩ := rem_bd h2.1 hDs
        rw [hN] at a1 a2 a3
        exact ⟨⟨a1, by omega⟩, fun h => by have := a3 (by omega); omega⟩
      have HMN := Lib.hid (And.intro hMv hNv)
      clear hMv hNv hDs hDv
      have h1a := h1.1
      have h1b := h1.2
      have h2a := h2.1
      have h2b := h2.2
      have hM0 := HMN.out.1.1.1
      have hN0 := HMN.out.2.1.1
      have hM1 := HMN.out.1.1.2
      have hN1 := HMN.out.2.1.2
      clear h1 h2
      go_upto_if 43 with (go_at_call 11; refine (HF.out _ ?bel).mono ?_; (case bel => (repeat (first | with_reducible exact Below.refl _ _ | with_reducible assumption | with_reducible refine Below.alloc0 ?_ _ | with_reducible refine Below.ext0 ?_ _ | with_reducible refine Below.drew ?_ | with_reducible refine below_drewN ?_ _ | (with_reducible refine Below.setCell (hp := ?hp) ?_ _; case hp => (first | (simp; done) | (simp; omega)))))); rintro e w' ⟨rfl, hb⟩; (first | (obtain ⟨u, rfl⟩ := ext_more hb; clear hb) | (obtain ⟨u, rfl⟩ := ext_more_alloc hb; clear hb) | (obtain ⟨u, rfl⟩ := ext_of hb; clear hb)))
      obtain ⟨p1, hp1⟩ : ∃ v, partOf 1 ls = v := ⟨_, rfl⟩
      obtain ⟨p2, hp2⟩ : ∃ v, partOf 2 ls = v := ⟨_, rfl⟩
      obtain ⟨p3, hp3⟩ : ∃ v, partOf 3 ls = v := ⟨_, rfl⟩
      have HP := Lib.hid (And.intro hp1 (And.intro hp2 hp3))
      clear hp1 hp2 hp3 hD hM hN h1a h1b h2a h2b hD0
      have hext := below_ext W u
      generalize ext W u = Y at *
      have HY := Lib.hid hext
      clear hext
      go_cut [8, 9] (fun a b X => X = Y ∧ ∃ x y, a = .int .i64 x ∧ b = .int .i64 y ∧ x ≤ y ∧ (0 ≤ x ∧ x ≤ 4294967295) ∧ (0 ≤ y ∧ y ≤ 4294967295) ∧ (total ≤ 1000000000 → x ≤ total ∧ y ≤ total))
      case first =>
        by_cases hgt : N < M
        · go_wp2_with fail
          go_meet
          exact ⟨rfl, N, M, rfl, rfl, by omega, by omega, by omega, fun h => ⟨HMN.out.2.2 h, HMN.out.1.2 h⟩⟩
        · go_wp2_with fail
          go_meet
          exact ⟨rfl, M, N, rfl, rfl, by omega, by omega, by omega, fun h => ⟨HMN.out.1.2 h, HMN.out.2.2 h⟩⟩
      case rest =>
        obtain ⟨rfl, x, y, rfl, rfl, hle, hx, hy, hxy⟩ := hcut
        have HXY := Lib.hid (And.intro hle (And.intro hx (And.intro hy hxy)))
        have hys := HY.out.size
        clear HMN hM0 hN0 hM1 hN1 hle hx hy hxy c0
        obtain ⟨Y, hYY⟩ : ∃ Y, Y = wc := ⟨_, rfl⟩
        rw [← hYY] at HY hys ⊢
        clear hYY
        obtain ⟨Lx, hLx⟩ : ∃ v, refundL ls total x (cardL x) = v := ⟨_, rfl⟩
        obtain ⟨rx, hrx⟩ : ∃ v, refundE ls total x (cardL x) = v := ⟨_, rfl⟩
        obtain ⟨Ly, hLy⟩ : ∃ v, refundL ls total y (cardL y) = v := ⟨_, rfl⟩
        obtain ⟨ry, hry⟩ : ∃ v, refundE ls total y (cardL y) = v := ⟨_, rfl⟩
        have hEY := HE.out.keep (HY.out.mono hws) (Nat.le_refl _)
        have HRx := Lib.hid (refund_at (cap := cap) x hEY (by omega) rfl f1 HH.out.2.1 rfl (card_len x) (by have := HXY.out.2.1; unfold fits; omega) Lx rx hLx hrx)
        have HRy := Lib.hid (refund_at (cap := cap) y hEY (by omega) rfl f1 HH.out.2.1 rfl (card_len y) (by have := HXY.out.2.2.1; unfold fits; omega) Ly ry hLy hry)
        have HLxy := Lib.hid (And.intro hLx (And.intro hrx (And.intro hLy hry)))
        clear hLx hrx hLy hry hEY
        have bY := HW.out.2.below HY.out
        have d0 := bY.cell
        have m0 := bY.lt
        have dd1 : ∀ u i, (ext Y.drew u).cell? ⟨w.heap.size, i, none⟩ = (#[.slice A ls.length cap, .int .i64 total] : Array Value)[i]? := fun u i => (bY.drew.below (below_ext _ u)).cell i
        have dd2 : ∀ o u i, (ext (Y.drew.alloc o) u).cell? ⟨w.heap.size, i, none⟩ = (#[.slice A ls.length cap, .int .i64 total] : Array Value)[i]? := fun o u i => ((bY.drew.alloc o).below (below_ext _ u)).cell i
        have dd3 : ∀ o u i, ((ext Y.drew u).alloc o).cell? ⟨w.heap.size, i, none⟩ = (#[.slice A ls.length cap, .int .i64 total] : Array Value)[i]? := fun o u i => ((bY.drew.below (below_ext _ u)).alloc o).cell i
        clear bY
        go_upto_region 8 with (fail)
        go_cut [10, 11] (fun p e X9 => Made Y Lx rx p e X9)
        case first =>
          go_region_with (first
            | (go_at_call 24; refine (card_any _ _ (by have := HXY.out.2.1; unfold fits; omega)).mono ?_; rintro e w1 ⟨A1, k1, c1, rfl, rfl, hE1, hb⟩; obtain ⟨u1, rfl⟩ := ext_of hb; clear hb)
            | (go_at_call 16; refine Calls.mono (HRx.out _ _ _ ?bel ?el) ?_; (case bel => (repeat (first | with_reducible exact Below.refl _ _ | with_reducible assumption | with_reducible refine Below.alloc0 ?_ _ | with_reducible refine Below.ext0 ?_ _ | with_reducible refine Below.drew ?_ | with_reducible refine below_drewN ?_ _ | (with_reducible refine Below.setCell (hp := ?hp) ?_ _; case hp => (first | (simp; done) | (simp; omega)))))); (case el => first | exact hE1 | exact hE1.keep (below_self _ _) (by simp)); rintro e w2 ⟨A2, n2, c2, rfl, rfl, hE2, hc2, hm2, hb⟩; first | (obtain ⟨u2, rfl⟩ := ext_more hb; clear hb) | (obtain ⟨u2, rfl⟩ := ext_of hb; clear hb)))
          all_goals go_wp2_with fail
          all_goals go_meet
          all_goals first
            | (with_reducible refine made_new ?_ hE2
               exact Below.ext0 ((Below.refl _ Y).drew) u2)
            | (with_reducible refine made_set ?_ ?_ ?_ hE2
               · first | with_reducible exact Below.ext0 (Below.alloc0 (Below.ext0 (Below.refl _ _).drew _) _) _ | with_reducible exact Below.ext0 (Below.alloc0 (Below.refl _ _) _).drew _
               · first | with_reducible exact Nat.le_refl _ | exact size_ext Y.drew u1
               · first | with_reducible exact (Bk.new _ _ _).below (below_ext _ _) | with_reducible exact (Bk.new _ _ _).drew.below (below_ext _ _))
        case rest =>
        obtain ⟨X, hX⟩ : ∃ X, X = wc := ⟨_, rfl⟩
        rw [← hX] at hcut ⊢
        obtain ⟨gx, Ax, cx, rfl, rfl, hgx, kx, hEx, hbe⟩ := hcut
        have HX := Lib.hid (Below.trans0 HY.out hbe)
        have Hx := Lib.hid (And.intro kx (And.intro hEx hbe))
        have hsX := hbe.size
        clear hX kx hEx hbe dd1 dd2 dd3 d0 m0
        have bX := HW.out.2.below HX.out
        have d0 := bX.cell
        have m0 := bX.lt
        have dd1 : ∀ u i, (ext X.drew u).cell? ⟨w.heap.size, i, none⟩ = (#[.slice A ls.length cap, .int .i64 total] : Array Value)[i]? := fun u i => (bX.drew.below (below_ext _ u)).cell i
        have dd2 : ∀ o u i, (ext (X.drew.alloc o) u).cell? ⟨w.heap.size, i, none⟩ = (#[.slice A ls.length cap, .int .i64 total] : Array Value)[i]? := fun o u i => ((bX.drew.alloc o).below (below_ext _ u)).cell i
        have dd3 : ∀ o u i, ((ext X.drew u).alloc o).cell? ⟨w.heap.size, i, none⟩ = (#[.slice A ls.length cap, .int .i64 total] : Array Value)[i]? := fun o u i => ((bX.drew.below (below_ext _ u)).alloc o).cell i
        clear bX
        go_upto_region 9 with (fail)
        go_cut [12, 13] (fun p e X9 => Made X Ly ry p e X9)
        case first =>
          go_region_with (first
            | (go_at_call 24; refine (card_any _ _ (by have := HXY.out.2.2.1; unfold fits; omega)).mono ?_; rintro e w1 ⟨A1, k1, c1, rfl, rfl, hE1, hb⟩; obtain ⟨u1, rfl⟩ := ext_of hb; clear hb)
            | (go_at_call 16; refine Calls.mono (HRy.out _ _ _ ?bel ?el) ?_; (case bel => have hw := Hx.out.2.2; (repeat (first | with_reducible exact Below.refl _ _ | with_reducible assumption | with_reducible refine Below.alloc0 ?_ _ | with_reducible refine Below.ext0 ?_ _ | with_reducible refine Below.drew ?_ | with_reducible refine below_drewN ?_ _ | (with_reducible refine Below.setCell (hp := ?hp) ?_ _; case hp => (first | (simp; done) | (simp; omega)))))); (case el => first | exact hE1 | exact hE1.keep (below_self _ _) (by simp)); rintro e w2 ⟨A2, n2, c2, rfl, rfl, hE2, hc2, hm2, hb⟩; first | (obtain ⟨u2, rfl⟩ := ext_more hb; clear hb) | (obtain ⟨u2, rfl⟩ := ext_of hb; clear hb)))
          all_goals go_wp2_with fail
          all_goals go_meet
          all_goals first
            | (with_reducible refine made_new ?_ hE2
               exact Below.ext0 ((Below.refl _ X).drew) u2)
            | (with_reducible refine made_set ?_ ?_ ?_ hE2
               · first | with_reducible exact Below.ext0 (Below.alloc0 (Below.ext0 (Below.refl _ _).drew _) _) _ | with_reducible exact Below.ext0 (Below.alloc0 (Below.refl _ _) _).drew _
               · first | with_reducible exact Nat.le_refl _ | exact size_ext X.drew u1
               · first | with_reducible exact (Bk.new _ _ _).below (below_ext _ _) | with_reducible exact (Bk.new _ _ _).drew.below (below_ext _ _))
        case rest =>
        obtain ⟨Z, hZ⟩ : ∃ X, X = wc := ⟨_, rfl⟩
        rw [← hZ] at hcut ⊢
        obtain ⟨gy, Ay, cy, rfl, rfl, hgy, ky, hEy, hbe⟩ := hcut
        have HZ := Lib.hid (Below.trans0 HX.out hbe)
        have Hy := Lib.hid (And.intro ky (And.intro hEy hbe))
        have hsZ := hbe.size
        clear hZ ky hEy hbe dd1 dd2 dd3 d0 m0
        have hkx := Hx.out.1.below Hy.out.2.2
        have hEx := Hx.out.2.1.keep Hy.out.2.2 hsZ
        have hky := Hy.out.1
        have hEy := Hy.out.2.1
        have HZw := Lib.hid (Below.trans0 HW.out.1 HZ.out)
        have hbill := HW.out.2.below HZ.out
        have hELs := HE.out.keep (HZ.out.mono hws) (Nat.le_refl _)
        have hzw : w.heap.size ≤ Z.heap.size := HZw.out.size
        obtain ⟨rb, hrb⟩ : ∃ v, rightB ls total = v := ⟨_, rfl⟩
        cases rb
        · obtain rfl : rx = 1 := by rw [← HLxy.out.2.1]; exact refund_no hrb
          obtain rfl : ry = 1 := by rw [← HLxy.out.2.2.2]; exact refund_no hrb
          clear hkx hEx hky hEy hbill hELs
          as_aux_lemma =>
          go_wp2_with fail
          go_ret
          exact ⟨rfl, HZw.out⟩
        · obtain ⟨hall, hsum, ht0, ht1⟩ := right_out hrb
          obtain ⟨hle, hx, hy, hxy⟩ := HXY.out
          obtain ⟨hxt, hyt⟩ := hxy ht1
          have ex := refund_card hrb ⟨hx.1, hxt⟩
          have ey := refund_card hrb ⟨hy.1, hyt⟩
          obtain rfl : rx = 0 := by rw [← HLxy.out.2.1]; exact ex
          obtain rfl : ry = 0 := by rw [← HLxy.out.2.2.2]; exact ey
          obtain ⟨tx1, tx2, tx3⟩ := refund_to ex
          obtain ⟨ty1, ty2, ty3⟩ := refund_to ey
          obtain ⟨lx1, lx2, lx3⟩ := less_in hrb ⟨hx.1, hxt⟩
          obtain ⟨ly1, ly2, ly3⟩ := less_in hrb ⟨hy.1, hyt⟩
          obtain ⟨mo1, mo2, mo3⟩ := less_mono (ls := ls) (total := total) hrb hle
          have q1 := partOf_bd 1 ls hall
          have q2 := partOf_bd 2 ls hall
          have q3 := partOf_bd 3 ls hall
          rw [hsum] at q1 q2 q3
          rw [HLxy.out.1] at tx1 tx2 tx3
          rw [HLxy.out.2.2.1] at ty1 ty2 ty3
          have TX : Hid (∀ (kd v : Int), toP Lx kd ⟨#[]⟩ = v → ∀ X, Below Z.heap.size Z X → Calls Try.prog 20 #[.agg #[.int .i64 0, .slice Ax Lx.length cx], .int .i64 kd, .string ⟨#[]⟩] X fun e w' => e = .returned (.int .i64 v) ∧ Below X.heap.size X w') := Lib.hid fun kd v hv => to_in (cap := cx) hEx (Nat.le_refl _) rfl (by have := refundL_len ls total x (cardL x); rw [HLxy.out.1] at this; omega) (by rw [← HLxy.out.1]; exact refundL_bd) kd ⟨#[]⟩ v hv
          have TY : Hid (∀ (kd v : Int), toP Ly kd ⟨#[]⟩ = v → ∀ X, Below Z.heap.size Z X → Calls Try.prog 20 #[.agg #[.int .i64 0, .slice Ay Ly.length cy], .int .i64 kd, .string ⟨#[]⟩] X fun e w' => e = .returned (.int .i64 v) ∧ Below X.heap.size X w') := Lib.hid fun kd v hv => to_in (cap := cy) hEy (Nat.le_refl _) rfl (by have := refundL_len ls total y (cardL y); rw [HLxy.out.2.2.1] at this; omega) (by rw [← HLxy.out.2.2.1]; exact refundL_bd) kd ⟨#[]⟩ v hv
          have TO : Hid (∀ (q v : Int), q ≠ 0 → partOf q ls = v → ∀ X, Below Z.heap.size Z X → Calls Try.prog 21 #[.agg #[.slice A ls.length cap, .int .i64 total], .int .i64 q] X fun e w' => e = .returned (.int .i64 v) ∧ Below X.heap.size X w') := Lib.hid fun q v hq hv => lof_in (cap := cap) (total := total) hELs hzw rfl f1 hall q hq v hv
          have TAB : Hid (∀ k : Nat, k < 3 → ∃ kd q l m p : Int, (#[.int .i64 2, .int .i64 1, .int .i64 3] : Array Value)[k]? = some (.int .i64 kd) ∧ (#[.int .i64 1, .int .i64 2, .int .i64 3] : Array Value)[k]? = some (.int .i64 q) ∧ toP Lx kd ⟨#[]⟩ = -l ∧ toP Ly kd ⟨#[]⟩ = -m ∧ partOf q ls = p ∧ q ≠ 0 ∧ (0 ≤ l ∧ l ≤ p) ∧ (0 ≤ m ∧ m ≤ p) ∧ l - 1 ≤ m ∧ p ≤ 1000000000) := Lib.hid fun k hk => by
            have h3 : k = 0 ∨ k = 1 ∨ k = 2 := by omega
            rcases h3 with rfl | rfl | rfl
            · exact ⟨2, 1, _, _, _, rfl, rfl, tx1, ty1, rfl, by decide, lx1, ly1, mo1, by omega⟩
            · exact ⟨1, 2, _, _, _, rfl, rfl, tx2, ty2, rfl, by decide, lx2, ly2, mo2, by omega⟩
            · exact ⟨3, 3, _, _, _, rfl, rfl, tx3, ty3, rfl, by decide, lx3, ly3, mo3, by omega⟩
          have HK9 := Lib.hid (And.intro hbill (And.intro hkx hky))
          clear hbill hkx hky hEx hEy hELs hall hsum ht0 ht1 hle hx hy hxy hxt hyt ex ey tx1 tx2 tx3 ty1 ty2 ty3 lx1 lx2 lx3 ly1 ly2 ly3 mo1 mo2 mo3 q1 q2 q3 HXY HLxy HRx HRy Hx Hy HX HY HP hrb
          as_aux_lemma =>
          go_upto_region 14 with (fail)
          refine forget (fun V => Below Z.heap.size Z V ∧ Bk V Z.heap.size #[.int .i64 2, .int .i64 1, .int .i64 3] 3 ∧ Bk V (Z.heap.size + 1) #[.int .i64 1, .int .i64 2, .int .i64 3] 3) ⟨by (repeat (first | with_reducible exact Below.refl _ _ | with_reducible assumption | with_reducible refine Below.alloc0 ?_ _ | with_reducible refine Below.ext0 ?_ _ | with_reducible refine Below.drew ?_ | with_reducible refine below_drewN ?_ _ | (with_reducible refine Below.setCell (hp := ?hp) ?_ _; case hp => (first | (simp; done) | (simp; omega))))), (Bk.new _ _ _).alloc _, bk_new_at _ _ _ _ (by simp)⟩ ?_
          rintro V ⟨hw, k1, k2⟩
          have HV := Lib.hid (And.intro hw (And.intro k1 k2))
          have hvs := hw.size
          obtain ⟨zb, hzb⟩ : ∃ n, Z.heap.size = n := ⟨_, rfl⟩
          rw [hzb] at HV hvs ⊢
          clear hw k1 k2
          go_wp2_with fail
          go_loopw [16] (fun i wr => ∃ k : Nat, k ≤ 3 ∧ i = .int .i64 k ∧ Below V.heap.size V wr) (fun i _ => 3 - (intOf i).toNat)
          case atStart => exact ⟨0, by omega, rfl, Below.refl _ _⟩
          case round =>
            obtain ⟨k, hk, rfl, hb⟩ := hrel
            have hzr : Below Z.heap.size Z wr := by have h9 := HV.out.1; rw [← hzb] at h9; exact Below.trans0 h9 hb
            have HB := Lib.hid hzr
            by_cases h3 : k = 3
            · subst h3
              clear hb hzr
              as_aux_lemma =>
              go_wp2_with fail
              go_ret
              exact ⟨rfl, Below.trans0 HZw.out HB.out⟩
            · obtain ⟨kd, q, l, m, p, t1, t2, t3, t4, t5, t6, ⟨l0, l1⟩, ⟨m0, m1⟩, hlm, hp⟩ := TAB.out k (by omega)
              have TXk := Lib.hid (TX.out kd (-l) t3)
              have TYk := Lib.hid (TY.out kd (-m) t4)
              have TOk := Lib.hid (TO.out q p t6 t5)
              have e1 := ((HV.out.2.1.below hb).cell k).trans t1
              have e2 := ((HV.out.2.2.below hb).cell k).trans t2
              have n1 := (HV.out.2.1.below hb).lt
              have n2 := (HV.out.2.2.below hb).lt
              have e3 := (HK9.out.1.below hzr).cell
              have n3 := (HK9.out.1.below hzr).lt
              have e4 := (HK9.out.2.1.below hzr).cell
              have n4 := (HK9.out.2.1.below hzr).lt
              have e5 := (HK9.out.2.2.below hzr).cell
              have n5 := (HK9.out.2.2.below hzr).lt
              have hk3 : (k : Int) < 3 := by omega
              have d1 : ¬ l < 0 := by omega
              have d2 : ¬ m < 0 := by omega
              have d3 : ¬ p < m := by omega
              have d4 : ¬ p < l := by omega
              have d5 : ¬ m < l - 1 := by omega
              have g1 : decide (l < 0) = false := decide_eq_false d1
              have g2 : decide (m < 0) = false := decide_eq_false d2
              have g3 : decide (p < m) = false := decide_eq_false d3
              have g4 : decide (p < l) = false := decide_eq_false d4
              have g5 : decide (m < l - 1) = false := decide_eq_false d5
              have hbs := hb.size
              have HBV := Lib.hid hb
              clear t1 t2 t3 t4 t5 t6 hb hzr TAB TX TY TO
              as_aux_lemma =>
              go_wp2_with fail
              refine wp_region_ext wr (by kernel_rfl) (by kernel_rfl) ?_
              repeat (go_big_quiet_step ((go_at_call 20; exact Calls.in_ext (TXk.out _ (Below.ext0 HB.out _)))))
              refine wpQuiet_nil (fun v => ?_)
              go_wp2_with fail
              refine wp_region_more _ _ (by kernel_rfl) (by kernel_rfl) ?_
              repeat (go_big_quiet_step ((go_at_call 20; exact Calls.in_ext (TYk.out _ (Below.ext0 HB.out _)))))
              refine wpQuiet_nil (fun v => ?_)
              go_wp2_with fail
              refine wp_region_more _ _ (by kernel_rfl) (by kernel_rfl) ?_
              repeat (go_big_quiet_step ((go_at_call 21; exact Calls.in_ext (TOk.out _ (Below.ext0 HB.out _)))))
              refine wpQuiet_nil (fun v => ?_)
              go_wp2_with fail
              go_roundw
              case rel => exact ⟨k + 1, by omega, by go_num, Below.ext0 HBV.out _⟩
              case measure => simp [intOf]; omega

set_option maxRecDepth 100000 in
theorem dealParts_lifted (os : Os) (started : os.Started) (H : Type) (enc : TypeId × Value → H) :
    ReturnsInHanded {} Try.checked os 8 .any (Rows.dealPartsSpec.pre6 enc Try.prog Try.f8 [] false) (Rows.dealPartsSpec.post enc Try.prog Try.f8 false true false false) := by
  refine law_lifted (C := Try.checked) own started (by kernel_rfl) Try.func8 rfl (fun ds hds => ?_) (tb := 4) (by kernel_rfl) Try.underlying4 laidOut (fun t ht => ?_)
    (ChangeSpec.witness6 (enc := enc) (C := Try.checked) false ⟨#[], #[.agg #[.slice none 0 0, .int .i64 0], .int .u32 0, .int .u32 0], []⟩ 8 (by kernel_rfl) (by kernel_rfl) (by kernel_rfl) (by kernel_rfl)) ?_
  · rw [Try.params8] at hds
    match ds, hds with
    | [_, _, _], _ => rfl
  · have := List.all_eq_true.1 (show (Try.f8.params.toList.all fun t => Try.prog.readableRec t && decide (t < Try.prog.types.size)) = true by kernel_rfl) t ht
    simp only [Bool.and_eq_true, decide_eq_true_eq] at this
    exact this
  · intro W args g
    rw [Try.params8] at g
    obtain ⟨v0, q0, e0, g0, h0⟩ := g.cons_inv
    obtain ⟨v1, q1, rfl, g1, h1⟩ := h0.cons_inv
    obtain ⟨v2, q2, rfl, g2, h2⟩ := h1.cons_inv
    obtain rfl := h2.nil_inv
    obtain rfl : args = #[v0, v1, v2] := by cases args; simp_all
    obtain ⟨c0, y0, rfl, r0⟩ := g0.agg Try.underlying24 opensBill
    obtain ⟨one, rfl, x1⟩ := g1.u32 Try.underlying56 (by kernel_rfl)
    obtain ⟨two, rfl, x2⟩ := g2.u32 Try.underlying56 (by kernel_rfl)
    obtain ⟨A, cap, rfl, a1, a2, a3, a4⟩ := bill_of r0
    exact parts_walk A y0.1 cap y0.2 one two W a3 (by unfold maxLen at a2; omega) a4 x1 x2

theorem dealParts_holds : Rows.DealPartsSaid :=
  OpenClaim.holds_of_wide 8 Try.f8 rfl rfl rfl rfl rfl rfl rfl ⟨rfl, rfl, rfl, rfl, rfl⟩ rfl rfl rfl rfl rfl (by kernel_rfl) Try.func8 (by kernel_rfl)
    (of_decide_eq_true (by kernel_rfl)) (by unfold Func.isWrapper; first | (rw [if_pos (by decide +kernel)]; kernel_rfl) | (rw [if_neg (by decide +kernel)]; exact ⟨rfl, rfl⟩))
    (fun os started H enc _ => dealParts_lifted os started H enc)
#print axioms dealParts_holds
end Go.Proofs.Ytggmihnhdojepaa
