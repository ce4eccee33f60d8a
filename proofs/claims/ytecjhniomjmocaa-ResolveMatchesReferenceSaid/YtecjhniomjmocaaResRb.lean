/- Layer 12 (resolve), the reference: the number that a name stands for. -/
import Derived.Test.YtecjhniomjmocaaResRa
namespace Go.Proofs.Ytecjhniomjmocaa
open Go.RowKit Go.ChangeAt
set_option linter.unusedVariables false
set_option linter.unusedSimpArgs false
attribute [local go_sem] ext_cell ext_frozen lt_ext ext_drew lt_extN

structure NumSt (base : Nat) (W0 Y : World) (v7 v8 : Value) (ls bs : List ByteArray) : Prop where
  below : Below base W0 Y
  o7 : OwnL tStr 9 Y base 0 v7 ls
  o8 : OwnL tStr 9 Y base 0 v8 bs
  ne : ∀ g, v7.ownBlock = some g → ¬ v8.ownBlock = some g
theorem NumSt.later {base : Nat} {W0 Y Y' : World} {v7 v8 : Value} {ls bs : List ByteArray} (h : NumSt base W0 Y v7 v8 ls bs) (hb : Below Y.heap.size Y Y') (hs : base ≤ Y.heap.size) : NumSt base W0 Y' v7 v8 ls bs :=
  ⟨h.below.trans (hb.mono hs), h.o7.below hb (Nat.zero_le _), h.o8.below hb (Nat.zero_le _), h.ne⟩
theorem NumSt.app8 {base n c : Nat} {W0 Y w' : World} {v7 v8 : Value} {A : Option Addr} {ls bs bs' : List ByteArray} (h : NumSt base W0 Y v7 v8 ls bs) (k1 : OwnL tStr 9 w' base 0 (.slice A n c) bs') (k2 : Below base Y w') (k3 : Y.grownBy w' v8.ownBlock) (k4 : A.map (·.block) = v8.ownBlock ∨ A.map (·.block) = some Y.heap.size) : NumSt base W0 w' v7 (.slice A n c) ls bs' := by
  refine ⟨h.below.trans k2, h.o7.only (S := fun g => v8.ownBlock = some g) ((Only.refl _ _).grown k3 (fun g e => .inl e)) (fun g _ => Nat.zero_le _) (Nat.zero_le _) h.ne, k1, fun g h1 h2 => ?_⟩
  rw [own_map] at h2
  rcases k4 with h3 | h3
  · exact h.ne g h1 (h3.symm.trans h2)
  · have := (h.o7.lt g h1).2
    rw [h2] at h3
    simp at h3
    omega
theorem NumSt.app7 {base n c : Nat} {W0 Y w' : World} {v7 v8 : Value} {A : Option Addr} {ls bs ls' : List ByteArray} (h : NumSt base W0 Y v7 v8 ls bs) (k1 : OwnL tStr 9 w' base 0 (.slice A n c) ls') (k2 : Below base Y w') (k3 : Y.grownBy w' v7.ownBlock) (k4 : A.map (·.block) = v7.ownBlock ∨ A.map (·.block) = some Y.heap.size) : NumSt base W0 w' (.slice A n c) v8 ls' bs := by
  refine ⟨h.below.trans k2, k1, h.o8.only (S := fun g => v7.ownBlock = some g) ((Only.refl _ _).grown k3 (fun g e => .inl e)) (fun g _ => Nat.zero_le _) (Nat.zero_le _) (fun g h1 h2 => h.ne g h2 h1), fun g h1 h2 => ?_⟩
  rw [own_map] at h1
  rcases k4 with h3 | h3
  · exact h.ne g (h3.symm.trans h1) h2
  · have := (h.o8.lt g h2).2
    rw [h1] at h3
    simp at h3
    omega
theorem one_st : ∀ (w : World) (B : Nat) (cs : List Value) (x : ByteArray), tStr.rd w B cs x → ∀ u ∈ cs, u.oneCell' = true := by
  rintro w B cs x ⟨rfl, _⟩ u hu
  simp at hu
  subst hu
  rfl
theorem lvls_step {ls : List Le} {k : Nat} {l : Le} (h : ls[k]? = some l) : lvlsN (ls.take (k + 1)) = lvlsN (ls.take k) ++ [l.1] := by
  unfold lvlsN
  rw [List.take_add_one, h]
  simp
theorem blks_step {ls : List Le} {k : Nat} {l : Le} (h : ls[k]? = some l) : blksN (ls.take (k + 1)) = blksN (ls.take k) ++ blkN l := by
  unfold blksN
  rw [List.take_add_one, h]
  simp

set_option maxRecDepth 100000 in
set_option maxHeartbeats 4000000 in
theorem num_any (hn : ByteArray) (x y : Int) (AH : Option Addr) (lh : List Le) (ch a : Nat) (nm : ByteArray) (w : World) (B : Nat) (h : Elems tLe w B AH lh) (hB : B ≤ w.heap.size) (hm1 : lh.length ≤ 10) (hm2 : ∀ l ∈ lh, l.2.2.1.length + l.2.2.2.1.length ≤ 50) :
    Calls Try.prog 46 #[.agg #[.string hn, .int .i64 x, .int .i64 y, .slice AH lh.length ch], .int .i64 a, .string nm] w fun e w' => e = .returned (.int .i64 (idxI nm (tableN (lvlsN lh, blksN lh) a))) ∧ Below w.heap.size w w' := by
  have HH := Lib.hid (And.intro h hm2)
  clear h hm2
  have b0 := Bk.new w #[.string hn, .int .i64 x, .int .i64 y, .slice AH lh.length ch] 29
  have HB0 := Lib.hid b0
  clear b0
  go_enter Try.func46, Try.ntmps46
  obtain ⟨W0, hW0⟩ : ∃ X, w.alloc (.cells #[.string hn, .int .i64 x, .int .i64 y, .slice AH lh.length ch] 29) = X := ⟨_, rfl⟩
  have hz0 : W0.heap.size = w.heap.size + 1 := by rw [← hW0]; simp
  have hzz : w.heap.size + 1 ≤ W0.heap.size := by omega
  have hw0 : Below w.heap.size w W0 := by rw [← hW0]; exact below_self _ _
  rw [hW0] at HB0
  have HW0 := Lib.hid (And.intro hz0 (And.intro hw0 hW0))
  clear hz0 hw0 hW0
  go_wp2_with fail
  rw [HW0.out.2.2]
  go_loopw [7, 8, 9, 10, 11, 12] (fun v7 v8 i _ _ _ wr => ∃ (k : Nat), k ≤ lh.length ∧ i = .int .i64 k ∧ NumSt (w.heap.size + 1) W0 wr v7 v8 (lvlsN (lh.take k)) (blksN (lh.take k))) (fun _ _ i _ _ _ _ => lh.length - (intOf i).toNat)
  case atStart => exact ⟨0, by omega, rfl, Below.refl _ _, OwnL.nil, OwnL.nil, fun g h => by simp [Value.ownBlock] at h⟩
  case round =>
    obtain ⟨k, hk, rfl, hS⟩ := hrel
    generalize wr = wA at *
    have hwA := hS.below.size
    have hzA : w.heap.size + 1 ≤ wA.heap.size := by omega
    have hlA : w.heap.size < wA.heap.size := by omega
    have bh := HB0.out.only (S := fun g => w.heap.size + 1 ≤ g) (by exact ⟨hS.below.os, hS.below.tape, hS.below.output, hS.below.size, fun q h1 h2 => hS.below.block q (by omega)⟩) (by omega)
    have ch2 : wA.cell? ⟨w.heap.size, 3, none⟩ = some (.slice AH lh.length ch) := bh.cell 3
    by_cases hlt : k < lh.length
    · obtain ⟨A7, c7, rfl, hc7, hm7⟩ := hS.o7.form
      obtain ⟨A8, c8, rfl, hc8, hm8⟩ := hS.o8.form
      have hm7' : c7 ≤ 9223372036854775807 := by unfold maxLen at hm7; omega
      have hm8' : c8 ≤ 9223372036854775807 := by unfold maxLen at hm8; omega
      have hbw : Below w.heap.size w wA := HW0.out.2.1.trans (hS.below.mono (by omega))
      obtain ⟨b, off, ln, ht, AB, bs, cb, AA, ars, ca, h1, h2, h3, att, rfl, hb, Hk, d0, d1, d2, d3, d4, d5, d6, d7, g1, g2, g3, g4, g5⟩ := pick_le (HH.out.1.keep (hbw.mono hB) (Nat.le_refl _)) hlt
      have hkl : (k : Int) < (lh.length : Int) := by omega
      have bw : b < wA.heap.size := by omega
      have h50 : bs.length + ars.length ≤ 50 := HH.out.2 _ (List.mem_of_getElem? Hk.out)
      have hlv : (lvlsN (lh.take k)).length ≤ 10 := by simp [lvlsN]; omega
      have hbk : (blksN (lh.take k)).length ≤ 500 := by
        have h9 := offB_le HH.out.2 k
        unfold offB at h9
        omega
      have Hlv := Lib.hid (lvls_step Hk.out)
      have Hbk := Lib.hid (blks_step Hk.out)
      obtain ⟨q7, hq7⟩ : ∃ q, lvlsN (lh.take k) = q := ⟨_, rfl⟩
      obtain ⟨q8, hq8⟩ : ∃ q, blksN (lh.take k) = q := ⟨_, rfl⟩
      rw [hq7] at hS hc7 hlv Hlv ⊢
      rw [hq8] at hS hc8 hbk Hbk ⊢
      clear hq7 hq8 bh
      have HS := Lib.hid hS
      clear hS hbw
      go_upto_region 7 with (at_builtin; refine list_appendL (T := tStr) (base := w.heap.size + 1) (B := 0) (qs := q7) (v := .slice A7 q7.length c7) rfl _ _ _ rfl 16 Try.underlying101 (by kernel_rfl) (by decide) one_st rfl ((HS.out.o7.below (below_self _ _) (Nat.zero_le _)).below (below_self _ _) (Nat.zero_le _)) (some ⟨wA.heap.size + 1, 0, none⟩) 1 1 [ln] [[.string ln]] rfl rfl rfl (fun i a1 a2 => by obtain rfl : i = 0 := (by simp at a1; omega); exact ⟨rfl, (show ln.size ≤ maxLen by unfold maxLen; omega)⟩) (by have := lies_bk (bk_next wA (.cells #[.string ln, .int .i64 ht, .slice AB bs.length cb, .slice AA ars.length ca, .slice h1.1 h1.2.1 h1.2.2, .slice h2.1 h2.2.1 h2.2.2, .slice h3.1 h3.2.1 h3.2.2, .int .i64 att] 70) #[.string ln] 9) 1; simpa using this) (by unfold maxLen; omega) (by omega) (by simp; omega) (by omega) ?_; intro A5 c5 w5 k1 k2 k3 k4; have H5 := Lib.hid (And.intro k1 (And.intro k2 (And.intro k3 k4))); clear k1 k2 k3 k4)
      have hnS : NumSt (w.heap.size + 1) W0 w5 (.slice A5 (q7.length + 1) c5) (.slice A8 q8.length c8) (q7 ++ [ln]) q8 :=
        ((HS.out.later (below_self _ _) hzA).later (below_self _ _) (by simp; omega)).app7 H5.out.1 H5.out.2.1 H5.out.2.2.1 H5.out.2.2.2
      have hb5 : Below B wA w5 := (((below_self wA _).mono (show B ≤ wA.heap.size by omega)).trans ((below_self _ _).mono (show B ≤ (wA.alloc (.cells #[.string ln, .int .i64 ht, .slice AB bs.length cb, .slice AA ars.length ca, .slice h1.1 h1.2.1 h1.2.2, .slice h2.1 h2.2.1 h2.2.2, .slice h3.1 h3.2.1 h3.2.2, .int .i64 att] 70)).heap.size by simp; omega))).trans (H5.out.2.1.mono (by omega))
      have hbl : Bk w5 wA.heap.size #[.string ln, .int .i64 ht, .slice AB bs.length cb, .slice AA ars.length ca, .slice h1.1 h1.2.1 h1.2.2, .slice h2.1 h2.2.1 h2.2.2, .slice h3.1 h3.2.1 h3.2.2, .int .i64 att] 70 := grown_bk H5.out.2.2.1 ((Bk.new wA _ _).alloc _) (fun e => by have := (HS.out.o7.lt _ e.symm).2; omega)
      refine forget (fun Y => NumSt (w.heap.size + 1) W0 Y (.slice A5 (q7.length + 1) c5) (.slice A8 q8.length c8) (q7 ++ [ln]) q8 ∧ Bk Y wA.heap.size #[.string ln, .int .i64 ht, .slice AB bs.length cb, .slice AA ars.length ca, .slice h1.1 h1.2.1 h1.2.2, .slice h2.1 h2.2.1 h2.2.2, .slice h3.1 h3.2.1 h3.2.2, .int .i64 att] 70 ∧ Elems tBl Y B AB bs ∧ Elems tAr Y B AA ars) ⟨hnS, hbl, g4.out.keep hb5 (Nat.le_refl _), g5.out.keep hb5 (Nat.le_refl _)⟩ ?_
      clear hnS hbl hb5 H5 g4 g5 d0 d1 d2 d3 d4 d5 d6 d7 HS bw hb
      generalize wA.heap.size = lb at *
      rintro Y1 ⟨hS, bl, hEb, hEa⟩
      have HY1 := Lib.hid (And.intro hS (And.intro bl (And.intro hEb hEa)))
      clear hS bl hEb hEa ch2
      go_wp2_with fail
      go_loopw [8, 11] (fun v8 i wr => ∃ (j : Nat), j ≤ bs.length ∧ i = .int .i64 j ∧ NumSt (w.heap.size + 1) W0 wr (.slice A5 (q7.length + 1) c5) v8 (q7 ++ [ln]) (q8 ++ (bs.take j).map fun b => ln ++ dotB ++ b.1) ∧ Bk wr lb #[.string ln, .int .i64 ht, .slice AB bs.length cb, .slice AA ars.length ca, .slice h1.1 h1.2.1 h1.2.2, .slice h2.1 h2.2.1 h2.2.2, .slice h3.1 h3.2.1 h3.2.2, .int .i64 att] 70 ∧ Elems tBl wr B AB bs ∧ Elems tAr wr B AA ars) (fun _ i _ => bs.length - (intOf i).toNat)
      case atStart => exact ⟨0, by omega, rfl, by simpa using HY1.out.1, HY1.out.2⟩
      case round =>
        obtain ⟨j, hj, rfl, hS, bl, hEb, hEa⟩ := hrel
        generalize wr = Y at *
        have hzY := hS.below.size
        obtain ⟨A9, c9, rfl, hc9, hm9⟩ := hS.o8.form
        have hm9' : c9 ≤ 9223372036854775807 := by unfold maxLen at hm9; omega
        have cl0 : Y.cell? ⟨lb, 0, none⟩ = some (.string ln) := bl.cell 0
        have cl2 : Y.cell? ⟨lb, 2, none⟩ = some (.slice AB bs.length cb) := bl.cell 2
        have cl3 : Y.cell? ⟨lb, 3, none⟩ = some (.slice AA ars.length ca) := bl.cell 3
        have ll := bl.lt
        by_cases hlj : j < bs.length
        · obtain ⟨b9, o9, n9, hd9, at9, rfl, hb9, Hj, e0, e1, e2, gn9⟩ := pick_bl hEb hlj
          have hjl : (j : Int) < (bs.length : Int) := by omega
          have bYl : b9 < Y.heap.size := by omega
          have hql : (q8 ++ (bs.take j).map fun b => ln ++ dotB ++ b.1).length ≤ 600 := by simp; omega
          have Hnx : Hid (q8 ++ ((bs.take (j + 1)).map fun b => ln ++ dotB ++ b.1) = (q8 ++ (bs.take j).map fun b => ln ++ dotB ++ b.1) ++ [ln ++ dotB ++ n9]) := Lib.hid (by rw [List.take_add_one, Hj.out]; simp)
          obtain ⟨qs, hqs⟩ : ∃ q, (q8 ++ (bs.take j).map fun b => ln ++ dotB ++ b.1) = q := ⟨_, rfl⟩
          rw [hqs] at hS hc9 hql Hnx ⊢
          obtain ⟨ob, hob⟩ : ∃ o, (Value.slice A9 qs.length c9).ownBlock = o := ⟨_, rfl⟩
          have hol := hS.o8.lt
          rw [hob] at hol
          have nl : ¬ ob = some lb := fun e => by
            obtain ⟨C, hC⟩ := ownL_typed hS.o8 (hob.trans e)
            exact bk_ne bl hC (by decide) rfl
          have nb : ¬ ob = some b9 := fun e => by have := (hol b9 e).1; omega
          have xl0 : ∀ u, (extN ob Y u).cell? ⟨lb, 0, none⟩ = some (.string ln) := fun u => (extN_cell lb 0 ll nl).trans cl0
          have xl2 : ∀ u, (extN ob Y u).cell? ⟨lb, 2, none⟩ = some (.slice (some ⟨b9, o9, none⟩) bs.length cb) := fun u => (extN_cell lb 2 ll nl).trans cl2
          have xl3 : ∀ u, (extN ob Y u).cell? ⟨lb, 3, none⟩ = some (.slice AA ars.length ca) := fun u => (extN_cell lb 3 ll nl).trans cl3
          have x9 : ∀ u, (extN ob Y u).cell? ⟨b9, o9 + j * 3, none⟩ = some (.string n9) := fun u => (extN_cell b9 (o9 + j * 3) bYl nb).trans e0
          have hs1 : ln.size ≤ 1125899906842624 := g1
          have hs2 : n9.size ≤ 1125899906842624 := gn9
          have HS0 := Lib.hid (show Only (fun g => ob = some g) Y Y.drew from (Only.refl _ _).drew)
          have HY := Lib.hid (And.intro hS (And.intro bl (And.intro hEb (And.intro hEa hob))))
          clear hS bl hEb hEa hqs hob e0 Hj
          go_upto_region 10 with (fail)
          refine region_plan (S := fun w' => ∃ u, w' = extN ob Y u) [([0, 1, 2, 3, 4, 5, 6, 7, 8, 9, 10], [11, 12]), ([13], [])] (by kernel_rfl) (by kernel_rfl) (mem_extN HS0.out) ?_
          refine plan_take (fun K9 h9 => ?_)
          simp only [List.map_cons, List.map_nil, pickO, List.getD_cons_zero, List.getD_cons_succ]
          repeat (go_big_quiet_step (fail))
          refine wpQuiet_nil (h9 _ ?_)
          clear h9 K9
          refine plan_run (fun K9 h9 => ?_)
          simp only [pickO, List.getD_cons_zero, List.getD_cons_succ]
          go_wp2_with fail
          have hbl1 : Below Y.heap.size Y (Y.alloc (.cells #[.string (ln ++ dotB ++ n9)] 9)).drew := (below_self _ _).drew
          refine h9 _ _ (mem_extN (((Only.refl (fun g => ob = some g) Y).alloc _).drew)) ?_
          clear h9 K9
          refine plan_run (fun K9 h9 => ?_)
          simp only [pickO, List.getD_cons_zero, List.getD_cons_succ]
          refine list_appendL (T := tStr) (base := w.heap.size + 1) (B := 0) (qs := qs) (v := .slice A9 qs.length c9) rfl _ _ _ rfl 16 Try.underlying101 (by kernel_rfl) (by decide) one_st rfl (HY.out.1.o8.below hbl1 (Nat.zero_le _)) (some ⟨Y.heap.size, 0, none⟩) 1 1 [ln ++ dotB ++ n9] [[.string (ln ++ dotB ++ n9)]] rfl rfl rfl (fun i a1 a2 => by obtain rfl : i = 0 := (by simp at a1; omega); exact ⟨rfl, (show (ln ++ dotB ++ n9).size ≤ maxLen by rw [ByteArray.size_append, ByteArray.size_append]; have : dotB.size = 1 := rfl; unfold maxLen; omega)⟩) (lies_bk (C := #[.string (ln ++ dotB ++ n9)]) ((Bk.new Y _ 9).drew) 1) (by unfold maxLen; omega) (by omega) (Nat.le_trans (show w.heap.size + 1 ≤ Y.heap.size by omega) hbl1.size) (by omega) ?_
          intro A6 c6 w6 k1 k2 k3 k4
          show K9 _ _
          go_simp
          have hS6 : Only (fun g => ob = some g) Y w6 := (((Only.refl (fun g => ob = some g) Y).alloc _).drew).grown k3 (fun g e => .inl (HY.out.2.2.2.2.symm.trans e))
          have hN6 := (HY.out.1.later hbl1 (by omega)).app8 k1 k2 k3 k4
          have hb6 : Below B Y w6 := (hbl1.mono (by omega)).trans (k2.mono (by omega))
          have H6 := Lib.hid (And.intro hN6 (And.intro (HY.out.2.1.only hS6 nl) (And.intro (HY.out.2.2.1.keep hb6 (Nat.le_refl _)) (HY.out.2.2.2.1.keep hb6 (Nat.le_refl _)))))
          refine h9 _ _ (mem_extN hS6) ?_
          clear h9 K9 k1 k2 k3 k4 hS6 hN6 hb6
          refine plan_next ?_
          refine plan_take (fun K9 h9 => ?_)
          simp only [List.map_cons, List.map_nil, pickO, List.getD_cons_zero, List.getD_cons_succ]
          repeat (go_big_quiet_step (fail))
          refine wpQuiet_nil (h9 _ ?_)
          clear h9 K9
          refine plan_next (plan_end ?_)
          go_wp2_with fail
          go_roundw
          case rel => exact ⟨j + 1, by omega, by go_num, by rw [Hnx.out]; exact H6.out.1, H6.out.2⟩
          case measure => simp [intOf]; omega
        · obtain rfl : j = bs.length := by omega
          rw [List.take_length] at hS hc9 ⊢
          have HY2 := Lib.hid (And.intro hS (And.intro bl (And.intro hEb hEa)))
          clear hS bl hEb hEa cl0 cl2 cl3 ll
          generalize Y = Y2 at *
          have cl2 : Y2.cell? ⟨lb, 2, none⟩ = some (.slice AB bs.length cb) := HY2.out.2.1.cell 2
          have cl3 : Y2.cell? ⟨lb, 3, none⟩ = some (.slice AA ars.length ca) := HY2.out.2.1.cell 3
          have ll := HY2.out.2.1.lt
          go_wp2_with fail
          clear cl2 cl3 ll
          go_loopw [8, 12] (fun v8 i wr => ∃ (j : Nat), j ≤ ars.length ∧ i = .int .i64 j ∧ NumSt (w.heap.size + 1) W0 wr (.slice A5 (q7.length + 1) c5) v8 (q7 ++ [ln]) ((q8 ++ bs.map fun b => ln ++ dotB ++ b.1) ++ (ars.take j).map fun b => ln ++ dotB ++ b.1) ∧ Bk wr lb #[.string ln, .int .i64 ht, .slice AB bs.length cb, .slice AA ars.length ca, .slice h1.1 h1.2.1 h1.2.2, .slice h2.1 h2.2.1 h2.2.2, .slice h3.1 h3.2.1 h3.2.2, .int .i64 att] 70 ∧ Elems tBl wr B AB bs ∧ Elems tAr wr B AA ars) (fun _ i _ => ars.length - (intOf i).toNat)
          case atStart => exact ⟨0, by omega, rfl, by simpa using HY2.out.1, HY2.out.2⟩
          case round =>
            obtain ⟨j, hj, rfl, hS, bl, hEb, hEa⟩ := hrel
            generalize wr = Y at *
            have hzY := hS.below.size
            obtain ⟨A9, c9, rfl, hc9, hm9⟩ := hS.o8.form
            have hm9' : c9 ≤ 9223372036854775807 := by unfold maxLen at hm9; omega
            have cl0 : Y.cell? ⟨lb, 0, none⟩ = some (.string ln) := bl.cell 0
            have cl2 : Y.cell? ⟨lb, 2, none⟩ = some (.slice AB bs.length cb) := bl.cell 2
            have cl3 : Y.cell? ⟨lb, 3, none⟩ = some (.slice AA ars.length ca) := bl.cell 3
            have ll := bl.lt
            by_cases hlj : j < ars.length
            · obtain ⟨b9, o9, n9, x1, x2, x3, x4, hd9, at9, rfl, hb9, Hj, e0, e1, e2, e3, e4, e5, e6, gn9⟩ := pick_ar hEa hlj
              have hjl : (j : Int) < (ars.length : Int) := by omega
              have bYl : b9 < Y.heap.size := by omega
              have hql : ((q8 ++ bs.map fun b => ln ++ dotB ++ b.1) ++ (ars.take j).map fun b => ln ++ dotB ++ b.1).length ≤ 600 := by simp; omega
              have Hnx : Hid ((q8 ++ bs.map fun b => ln ++ dotB ++ b.1) ++ ((ars.take (j + 1)).map fun b => ln ++ dotB ++ b.1) = ((q8 ++ bs.map fun b => ln ++ dotB ++ b.1) ++ (ars.take j).map fun b => ln ++ dotB ++ b.1) ++ [ln ++ dotB ++ n9]) := Lib.hid (by rw [List.take_add_one, Hj.out]; simp)
              obtain ⟨qs, hqs⟩ : ∃ q, ((q8 ++ bs.map fun b => ln ++ dotB ++ b.1) ++ (ars.take j).map fun b => ln ++ dotB ++ b.1) = q := ⟨_, rfl⟩
              rw [hqs] at hS hc9 hql Hnx ⊢
              obtain ⟨ob, hob⟩ : ∃ o, (Value.slice A9 qs.length c9).ownBlock = o := ⟨_, rfl⟩
              have hol := hS.o8.lt
              rw [hob] at hol
              have nl : ¬ ob = some lb := fun e => by
                obtain ⟨C, hC⟩ := ownL_typed hS.o8 (hob.trans e)
                exact bk_ne bl hC (by decide) rfl
              have nb : ¬ ob = some b9 := fun e => by have := (hol b9 e).1; omega
              have xl0 : ∀ u, (extN ob Y u).cell? ⟨lb, 0, none⟩ = some (.string ln) := fun u => (extN_cell lb 0 ll nl).trans cl0
              have xl2 : ∀ u, (extN ob Y u).cell? ⟨lb, 2, none⟩ = some (.slice AB bs.length cb) := fun u => (extN_cell lb 2 ll nl).trans cl2
              have xl3 : ∀ u, (extN ob Y u).cell? ⟨lb, 3, none⟩ = some (.slice (some ⟨b9, o9, none⟩) ars.length ca) := fun u => (extN_cell lb 3 ll nl).trans cl3
              have x9 : ∀ u, (extN ob Y u).cell? ⟨b9, o9 + j * 7, none⟩ = some (.string n9) := fun u => (extN_cell b9 (o9 + j * 7) bYl nb).trans e0
              have hs1 : ln.size ≤ 1125899906842624 := g1
              have hs2 : n9.size ≤ 1125899906842624 := gn9
              have HS0 := Lib.hid (show Only (fun g => ob = some g) Y Y.drew from (Only.refl _ _).drew)
              have HY := Lib.hid (And.intro hS (And.intro bl (And.intro hEb (And.intro hEa hob))))
              clear hS bl hEb hEa hqs hob e0 Hj
              go_upto_region 14 with (fail)
              refine region_plan (S := fun w' => ∃ u, w' = extN ob Y u) [([0, 1, 2, 3, 4, 5, 6, 7, 8, 9, 10], [11, 12]), ([13], [])] (by kernel_rfl) (by kernel_rfl) (mem_extN HS0.out) ?_
              refine plan_take (fun K9 h9 => ?_)
              simp only [List.map_cons, List.map_nil, pickO, List.getD_cons_zero, List.getD_cons_succ]
              repeat (go_big_quiet_step (fail))
              refine wpQuiet_nil (h9 _ ?_)
              clear h9 K9
              refine plan_run (fun K9 h9 => ?_)
              simp only [pickO, List.getD_cons_zero, List.getD_cons_succ]
              go_wp2_with fail
              have hbl1 : Below Y.heap.size Y (Y.alloc (.cells #[.string (ln ++ dotB ++ n9)] 9)).drew := (below_self _ _).drew
              refine h9 _ _ (mem_extN (((Only.refl (fun g => ob = some g) Y).alloc _).drew)) ?_
              clear h9 K9
              refine plan_run (fun K9 h9 => ?_)
              simp only [pickO, List.getD_cons_zero, List.getD_cons_succ]
              refine list_appendL (T := tStr) (base := w.heap.size + 1) (B := 0) (qs := qs) (v := .slice A9 qs.length c9) rfl _ _ _ rfl 16 Try.underlying101 (by kernel_rfl) (by decide) one_st rfl (HY.out.1.o8.below hbl1 (Nat.zero_le _)) (some ⟨Y.heap.size, 0, none⟩) 1 1 [ln ++ dotB ++ n9] [[.string (ln ++ dotB ++ n9)]] rfl rfl rfl (fun i a1 a2 => by obtain rfl : i = 0 := (by simp at a1; omega); exact ⟨rfl, (show (ln ++ dotB ++ n9).size ≤ maxLen by rw [ByteArray.size_append, ByteArray.size_append]; have : dotB.size = 1 := rfl; unfold maxLen; omega)⟩) (lies_bk (C := #[.string (ln ++ dotB ++ n9)]) ((Bk.new Y _ 9).drew) 1) (by unfold maxLen; omega) (by omega) (Nat.le_trans (show w.heap.size + 1 ≤ Y.heap.size by omega) hbl1.size) (by omega) ?_
              intro A6 c6 w6 k1 k2 k3 k4
              show K9 _ _
              go_simp
              have hS6 : Only (fun g => ob = some g) Y w6 := (((Only.refl (fun g => ob = some g) Y).alloc _).drew).grown k3 (fun g e => .inl (HY.out.2.2.2.2.symm.trans e))
              have hN6 := (HY.out.1.later hbl1 (by omega)).app8 k1 k2 k3 k4
              have hb6 : Below B Y w6 := (hbl1.mono (by omega)).trans (k2.mono (by omega))
              have H6 := Lib.hid (And.intro hN6 (And.intro (HY.out.2.1.only hS6 nl) (And.intro (HY.out.2.2.1.keep hb6 (Nat.le_refl _)) (HY.out.2.2.2.1.keep hb6 (Nat.le_refl _)))))
              refine h9 _ _ (mem_extN hS6) ?_
              clear h9 K9 k1 k2 k3 k4 hS6 hN6 hb6
              refine plan_next ?_
              refine plan_take (fun K9 h9 => ?_)
              simp only [List.map_cons, List.map_nil, pickO, List.getD_cons_zero, List.getD_cons_succ]
              repeat (go_big_quiet_step (fail))
              refine wpQuiet_nil (h9 _ ?_)
              clear h9 K9
              refine plan_next (plan_end ?_)
              go_wp2_with fail
              go_roundw
              case rel => exact ⟨j + 1, by omega, by go_num, by rw [Hnx.out]; exact H6.out.1, H6.out.2⟩
              case measure => simp [intOf]; omega
            · obtain rfl : j = ars.length := by omega
              rw [List.take_length] at hS hc9 ⊢
              have HY3 := Lib.hid hS
              clear hS bl hEb hEa
              go_wp2_with fail
              go_roundw
              case rel =>
                refine ⟨k + 1, by omega, by go_num, ?_⟩
                rw [Hlv.out, Hbk.out]
                have e9 : q8 ++ blkN (ln, ht, bs, ars, h1, h2, h3, att) = (q8 ++ bs.map fun b => ln ++ dotB ++ b.1) ++ ars.map fun b => ln ++ dotB ++ b.1 := by simp [blkN, Function.comp_def]
                rw [e9]
                exact HY3.out
              case measure => simp [intOf]; omega
    · obtain rfl : k = lh.length := by omega
      rw [List.take_length] at hS
      obtain ⟨A7, c7, rfl, hc7, hm7⟩ := hS.o7.form
      obtain ⟨A8, c8, rfl, hc8, hm8⟩ := hS.o8.form
      have hlv : (lvlsN lh).length ≤ 10 := by simp [lvlsN]; omega
      have hbk : (blksN lh).length ≤ 500 := by
        have h9 := offB_le HH.out.2 lh.length
        unfold offB at h9
        rw [List.take_length] at h9
        omega
      have HF := Lib.hid (And.intro (HW0.out.2.1.trans (hS.below.mono (by omega))) (And.intro (hS.o7.elems (B2 := wA.heap.size) (Nat.zero_le _) (Nat.le_refl _)) (hS.o8.elems (B2 := wA.heap.size) (Nat.zero_le _) (Nat.le_refl _))))
      clear hS bh hc7 hm7 hc8 hm8
      by_cases a4 : a = 4
      · have hq4 : ((a : Int) == 4) = true := by simpa using (show (a : Int) = 4 by omega)
        have HT := Lib.hid (show tableN (lvlsN lh, blksN lh) a = lvlsN lh by unfold tableN; rw [if_pos a4])
        clear a4
        go_wp2_with (go_at_call 48; refine (idx_any _ _ _ _ nm _ _ HF.out.2.1 (Nat.le_refl _) rfl (by omega)).mono ?_; rintro e w' ⟨rfl, rfl⟩)
        go_ret
        exact ⟨ret_int (by rw [HT.out]), HF.out.1⟩
      · have hq4 : ((a : Int) == 4) = false := by simpa using (show ¬ (a : Int) = 4 by omega)
        by_cases a5 : a = 5
        · have hq5 : ((a : Int) == 5) = true := by simpa using (show (a : Int) = 5 by omega)
          have HT := Lib.hid (show tableN (lvlsN lh, blksN lh) a = blksN lh by unfold tableN; rw [if_neg a4, if_pos a5])
          clear a4 a5
          go_wp2_with (go_at_call 48; refine (idx_any _ _ _ _ nm _ _ HF.out.2.2 (Nat.le_refl _) rfl (by omega)).mono ?_; rintro e w' ⟨rfl, rfl⟩)
          go_ret
          exact ⟨ret_int (by rw [HT.out]), HF.out.1⟩
        · have hq5 : ((a : Int) == 5) = false := by simpa using (show ¬ (a : Int) = 5 by omega)
          have HT := Lib.hid (show tableN (lvlsN lh, blksN lh) a = kindsN by unfold tableN; rw [if_neg a4, if_neg a5])
          have HE := Lib.hid (show Elems tStr (wA.alloc (.cells (kindsN.map Value.string).toArray 9)) (wA.heap.size + 1) (some ⟨wA.heap.size, 0, none⟩) kindsN from st_lit (Bk.new _ _ _) (by unfold maxLen; decide) _ (by omega))
          clear a4 a5
          go_wp2_with (go_at_call 48; refine (idx_any _ kindsN 4 4 nm _ _ HE.out (by simp) rfl (by decide)).mono ?_; rintro e w' ⟨rfl, rfl⟩)
          go_ret
          exact ⟨ret_int (by rw [HT.out]), Below.alloc0 HF.out.1 _⟩
end Go.Proofs.Ytecjhniomjmocaa
