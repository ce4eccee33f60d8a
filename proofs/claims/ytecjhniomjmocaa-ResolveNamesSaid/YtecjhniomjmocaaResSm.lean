/- Layer 12 (resolve): the reference's comparisons of rules and policies, where both read as the same. -/
import Derived.Test.YtecjhniomjmocaaResW
import Derived.ChangeKeysEq
namespace Go.Proofs.Ytecjhniomjmocaa
open Go.RowKit Go.ChangeAt
set_option linter.unusedVariables false
set_option linter.unusedSimpArgs false
attribute [local go_sem] ext_cell ext_frozen lt_ext ext_drew

theorem zn_lit {z : Zn} (h : z.length = 10) : ∃ a0 b0 a1 b1 a2 b2 a3 b3 a4 b4 a5 b5 a6 b6 a7 b7 a8 b8 a9 b9 : Int, znV z = #[.int .i64 a0, .int .i64 b0, .int .i64 a1, .int .i64 b1, .int .i64 a2, .int .i64 b2, .int .i64 a3, .int .i64 b3, .int .i64 a4, .int .i64 b4, .int .i64 a5, .int .i64 b5, .int .i64 a6, .int .i64 b6, .int .i64 a7, .int .i64 b7, .int .i64 a8, .int .i64 b8, .int .i64 a9, .int .i64 b9] := by
  match z, h with
  | [(a0, b0), (a1, b1), (a2, b2), (a3, b3), (a4, b4), (a5, b5), (a6, b6), (a7, b7), (a8, b8), (a9, b9)], _ =>
    exact ⟨a0, b0, a1, b1, a2, b2, a3, b3, a4, b4, a5, b5, a6, b6, a7, b7, a8, b8, a9, b9, rfl⟩
theorem eq_range (a b : Int) (w : World) (d : Nat) : (Op.equalIn (d + 2) 40 (.agg #[.int .i64 a, .int .i64 b]) (.agg #[.int .i64 a, .int .i64 b])).run Try.prog w = .ok true w := by
  rw [run_equalIn_agg w (d + 1) 40 _ _ (by kernel_rfl) (by kernel_rfl)]
  go_simp
theorem eq_items (xs : Array Value) (w : World) : ∀ is : List Nat, (∀ i ∈ is, ∃ a b, (part 40 xs (i * 2)).run Try.prog w = .ok (.agg #[.int .i64 a, .int .i64 b]) w) → (Op.eqItems 9999 40 2 xs xs is).run Try.prog w = .ok true w
  | [], _ => by simp [Op.eqItems]
  | i :: is, h => by
    obtain ⟨a, b, e⟩ := h i (by simp)
    simp only [Op.eqItems, Sem.run_bind, e, Result.andThen_ok, eq_range a b w 9997, Bool.not_true, Bool.false_eq_true, if_false]
    exact eq_items xs w is fun j hj => h j (by simp [hj])
theorem eq_zone {z : Zn} (h : z.length = 10) (w : World) : (Op.equalIn 10000 42 (.agg (znV z)) (.agg (znV z))).run Try.prog w = .ok true w := by
  obtain ⟨i, hi⟩ : ∃ i, Try.prog.info? 40 = some i := by
    cases hi : Try.prog.info? 40 with
    | none => exact absurd (show (Try.prog.info? 40).isSome = true by kernel_rfl) (by rw [hi]; decide)
    | some i => exact ⟨i, rfl⟩
  rw [run_equalIn_array w 9999 _ _ Try.underlying42 hi, show Try.prog.cellsOf 40 = 2 by kernel_rfl]
  refine eq_items _ w _ fun i hi => ?_
  have hi' : i < 10 := by simpa using hi
  obtain ⟨a0, b0, a1, b1, a2, b2, a3, b3, a4, b4, a5, b5, a6, b6, a7, b7, a8, b8, a9, b9, e⟩ := zn_lit h
  rw [e]
  clear e h hi
  rcases (show i = 0 ∨ i = 1 ∨ i = 2 ∨ i = 3 ∨ i = 4 ∨ i = 5 ∨ i = 6 ∨ i = 7 ∨ i = 8 ∨ i = 9 by omega) with rfl | rfl | rfl | rfl | rfl | rfl | rfl | rfl | rfl | rfl
  · exact ⟨a0, b0, by kernel_rfl⟩
  · exact ⟨a1, b1, by kernel_rfl⟩
  · exact ⟨a2, b2, by kernel_rfl⟩
  · exact ⟨a3, b3, by kernel_rfl⟩
  · exact ⟨a4, b4, by kernel_rfl⟩
  · exact ⟨a5, b5, by kernel_rfl⟩
  · exact ⟨a6, b6, by kernel_rfl⟩
  · exact ⟨a7, b7, by kernel_rfl⟩
  · exact ⟨a8, b8, by kernel_rfl⟩
  · exact ⟨a9, b9, by kernel_rfl⟩
attribute [local go_sem] eq_zone
set_option maxRecDepth 100000 in
set_option maxHeartbeats 4000000 in
theorem sameRule_any (kd : Int) (nm : ByteArray) (num rn rd sn sd : Int) (zs : List Zn) (A1 A2 : Option Addr) (c1 c2 : Nat) (w : World) (B : Nat) (h1 : Elems tZn w B A1 zs) (h2 : Elems tZn w B A2 zs) (hB : B ≤ w.heap.size) (hl : zs.length ≤ 9223372036854775807) :
    Calls Try.prog 31 #[.agg #[.int .i64 kd, .string nm, .slice A1 zs.length c1, .int .i64 num, .int .i64 rn, .int .i64 rd, .int .i64 sn, .int .i64 sd], .agg #[.int .i64 kd, .string nm, .slice A2 zs.length c2, .int .i64 num, .int .i64 rn, .int .i64 rd, .int .i64 sn, .int .i64 sd]] w fun e w' => e = .returned (.bool true) ∧ Below w.heap.size w w' := by
  have HH := Lib.hid (And.intro h1 h2)
  clear h1 h2
  go_enter Try.func31, Try.ntmps31
  go_upto_region 1 with (fail)
  refine forget (fun X => Below w.heap.size w X ∧ Bk X w.heap.size #[.int .i64 kd, .string nm, .slice A1 zs.length c1, .int .i64 num, .int .i64 rn, .int .i64 rd, .int .i64 sn, .int .i64 sd] 54 ∧ Bk X (w.heap.size + 1) #[.int .i64 kd, .string nm, .slice A2 zs.length c2, .int .i64 num, .int .i64 rn, .int .i64 rd, .int .i64 sn, .int .i64 sd] 54) ⟨by (repeat (first | with_reducible exact Below.refl _ _ | with_reducible assumption | with_reducible refine Below.alloc0 ?_ _ | with_reducible refine Below.ext0 ?_ _ | with_reducible refine Below.drew ?_ | with_reducible refine below_drewN ?_ _ | (with_reducible refine Below.setCell (hp := ?hp) ?_ _; case hp => (first | (simp; done) | (simp; omega))))), (Bk.new w _ _).alloc _, bk_next w _ _ _⟩ ?_
  rintro X ⟨hX, b0, b1⟩
  have c0 := b0.cell
  have c1' := b1.cell
  have l0 := b0.lt
  have l1 := b1.lt
  have HX := Lib.hid (And.intro hX (And.intro b0 b1))
  clear hX b0 b1
  go_wp2_with fail
  clear c0 c1' l0 l1
  go_loopw [5] (fun i wr => ∃ (k : Nat), k ≤ zs.length ∧ i = .int .i64 k ∧ Below X.heap.size X wr) (fun i _ => zs.length - (intOf i).toNat)
  case atStart => exact ⟨0, by omega, rfl, Below.refl _ _⟩
  case round =>
    obtain ⟨k, hk, rfl, hwr⟩ := hrel
    generalize wr = wA at *
    have hzA := hwr.size
    have e0 : wA.cell? ⟨w.heap.size, 2, none⟩ = some (.slice A1 zs.length c1) := (HX.out.2.1.below hwr).cell 2
    have e1 : wA.cell? ⟨w.heap.size + 1, 2, none⟩ = some (.slice A2 zs.length c2) := (HX.out.2.2.below hwr).cell 2
    have m0 := (HX.out.2.1.below hwr).lt
    have m1 := (HX.out.2.2.below hwr).lt
    have hbw : Below B w wA := (Below.trans0 HX.out.1 hwr).mono hB
    by_cases hlt : k < zs.length
    · obtain ⟨b, off, z, rfl, hb, Hz, hzm, Hzc⟩ := pick_zn (HH.out.1.keep hbw (Nat.le_refl _)) hlt
      obtain ⟨b', off', z', rfl, hb', Hz', hzm', Hzc'⟩ := pick_zn (HH.out.2.keep hbw (Nat.le_refl _)) hlt
      obtain rfl := Option.some.inj (Hz.out.symm.trans Hz'.out)
      have hz10 : z.length = 10 := by
        obtain ⟨cs, hr⟩ := HH.out.1.rd_mem hzm
        exact (zn_cells hr).2.1
      have Hz10 := Lib.hid hz10
      have hkl : (k : Int) < (zs.length : Int) := by omega
      have hwz := HX.out.1.size
      have bw : b < wA.heap.size := by omega
      have bw' : b' < wA.heap.size := by omega
      have Hw := Lib.hid hwr
      clear hwr hbw
      go_wp2_with fail
      refine wp_region_ext wA (by kernel_rfl) (by kernel_rfl) ?_
      iterate 4 (go_big_quiet_step (fail))
      go_big_quiet_want
      refine quiet_load_at _ _ rfl b (off + k * 20) rfl (znV z) _ (fun w9 hw9 j u hu => by obtain ⟨u9, rfl⟩ := hw9; rw [ext_cell _ _ bw]; exact Hzc.out j u hu) Try.underlying42 rfl (by rw [znV_size Hz10.out]; kernel_rfl) ?_
      go_simp
      go_big_quiet_on
      iterate 4 (go_big_quiet_step (fail))
      go_big_quiet_want
      refine quiet_load_at _ _ rfl b' (off' + k * 20) rfl (znV z) _ (fun w9 hw9 j u hu => by obtain ⟨u9, rfl⟩ := hw9; rw [ext_cell _ _ bw']; exact Hzc'.out j u hu) Try.underlying42 rfl (by rw [znV_size Hz10.out]; kernel_rfl) ?_
      go_simp
      go_big_quiet_on
      repeat (go_big_quiet_step (fail))
      refine wpQuiet_nil (fun v => ?_)
      go_wp2_with fail
      go_roundw
      case rel => exact ⟨k + 1, by omega, by go_num, Hw.out.trans ((below_ext wA v).mono hzA)⟩
      case measure => simp [intOf]; omega
    · have Hw := Lib.hid hwr
      clear hwr hbw
      go_wp2_with fail
      go_ret
      exact ⟨rfl, Below.trans0 HX.out.1 Hw.out⟩
set_option maxRecDepth 100000 in
set_option maxHeartbeats 4000000 in
theorem same_any (ps : List Rl) (A1 A2 : Option Addr) (c1 c2 : Nat) (w : World) (B : Nat) (h1 : Elems tRl w B A1 ps) (h2 : Elems tRl w B A2 ps) (hB : B ≤ w.heap.size) (hl : ps.length ≤ 9223372036854775807) :
    Calls Try.prog 16 #[.agg #[.slice A1 ps.length c1], .agg #[.slice A2 ps.length c2]] w fun e w' => e = .returned (.bool true) ∧ Below w.heap.size w w' := by
  have HH := Lib.hid (And.intro h1 h2)
  clear h1 h2
  go_enter Try.func16, Try.ntmps16
  go_upto_region 1 with (fail)
  refine forget (fun X => Below w.heap.size w X ∧ Bk X w.heap.size #[.slice A1 ps.length c1] 35 ∧ Bk X (w.heap.size + 1) #[.slice A2 ps.length c2] 35) ⟨by (repeat (first | with_reducible exact Below.refl _ _ | with_reducible assumption | with_reducible refine Below.alloc0 ?_ _ | with_reducible refine Below.ext0 ?_ _ | with_reducible refine Below.drew ?_ | with_reducible refine below_drewN ?_ _ | (with_reducible refine Below.setCell (hp := ?hp) ?_ _; case hp => (first | (simp; done) | (simp; omega))))), (Bk.new w _ _).alloc _, bk_next w _ _ _⟩ ?_
  rintro X ⟨hX, b0, b1⟩
  have c0 : X.cell? ⟨w.heap.size, 0, none⟩ = some (.slice A1 ps.length c1) := b0.cell 0
  have c1' : X.cell? ⟨w.heap.size + 1, 0, none⟩ = some (.slice A2 ps.length c2) := b1.cell 0
  have l0 := b0.lt
  have l1 := b1.lt
  have HX := Lib.hid (And.intro hX (And.intro b0 b1))
  clear hX b0 b1
  go_wp2_with fail
  clear c0 c1' l0 l1
  go_loopw [5] (fun i wr => ∃ (k : Nat), k ≤ ps.length ∧ i = .int .i64 k ∧ Below X.heap.size X wr) (fun i _ => ps.length - (intOf i).toNat)
  case atStart => exact ⟨0, by omega, rfl, Below.refl _ _⟩
  case round =>
    obtain ⟨k, hk, rfl, hwr⟩ := hrel
    generalize wr = wA at *
    have hzA := hwr.size
    have e0 : wA.cell? ⟨w.heap.size, 0, none⟩ = some (.slice A1 ps.length c1) := (HX.out.2.1.below hwr).cell 0
    have e1 : wA.cell? ⟨w.heap.size + 1, 0, none⟩ = some (.slice A2 ps.length c2) := (HX.out.2.2.below hwr).cell 0
    have m0 := (HX.out.2.1.below hwr).lt
    have m1 := (HX.out.2.2.below hwr).lt
    have hbw : Below B w wA := (Below.trans0 HX.out.1 hwr).mono hB
    by_cases hlt : k < ps.length
    · obtain ⟨b, off, kd, nm, AZ, zs, zc, num, rn, rd, sn, sd, rfl, hb, Hk, d0, d1, d2, d3, d4, d5, d6, d7, _, hzc, hzm, hEZ, _, _⟩ := pick_rule (HH.out.1.keep hbw (Nat.le_refl _)) hlt
      obtain ⟨b', off', kd', nm', AZ', zs', zc', num', rn', rd', sn', sd', rfl, hb', Hk', d0', d1', d2', d3', d4', d5', d6', d7', _, hzc', hzm', hEZ', _, _⟩ := pick_rule (HH.out.2.keep hbw (Nat.le_refl _)) hlt
      have he := Option.some.inj (Hk.out.symm.trans Hk'.out)
      simp only [Prod.mk.injEq] at he
      obtain ⟨rfl, rfl, rfl, rfl, ⟨rfl, rfl⟩, rfl, rfl⟩ := he
      have hkl : (k : Int) < (ps.length : Int) := by omega
      have hwz := HX.out.1.size
      have bw : b < wA.heap.size := by omega
      have bw' : b' < wA.heap.size := by omega
      have hzl : zs.length ≤ 9223372036854775807 := by unfold maxLen at hzm; omega
      have HM := Lib.hid (And.intro hwr (And.intro hEZ hEZ'))
      have hBA : B ≤ wA.heap.size := by omega
      clear hwr hbw hEZ hEZ' Hk Hk' hzc hzm hzc' hzm'
      go_wp2_with fail
      refine wp_region_ext wA (by kernel_rfl) (by kernel_rfl) ?_
      repeat (go_big_quiet_step ((go_at_call 31; exact Calls.in_ext (sameRule_any _ _ _ _ _ _ _ zs _ _ _ _ _ B (HM.out.2.1.keep ((below_ext _ _).mono hBA) (Nat.le_refl _)) (HM.out.2.2.keep ((below_ext _ _).mono hBA) (Nat.le_refl _)) (Nat.le_trans hBA (size_ext _ _)) hzl))))
      refine wpQuiet_nil (fun v => ?_)
      go_wp2_with fail
      go_roundw
      case rel => exact ⟨k + 1, by omega, by go_num, HM.out.1.trans ((below_ext wA v).mono hzA)⟩
      case measure => simp [intOf]; omega
    · have Hw := Lib.hid hwr
      clear hwr hbw
      go_wp2_with fail
      go_ret
      exact ⟨rfl, Below.trans0 HX.out.1 Hw.out⟩
end Go.Proofs.Ytecjhniomjmocaa
