/- ResolveOrder: with the alternatives and the tests turned round there are faults or not as before, and the same rules apply, for every rules, hall and facts; no condition. -/
import Derived.Test.YtecjhniomjmocaaResOp
import Derived.Test.YtecjhniomjmocaaResW
import Derived.Test.YtecjhniomjmocaaOwn
namespace Go.Proofs.Ytecjhniomjmocaa
open Go.RowKit Go.ChangeAt
set_option linter.unusedVariables false
set_option linter.unusedSimpArgs false
attribute [local go_sem] ext_cell ext_frozen lt_ext ext_drew

theorem flat_str2 : Flat tStr2 := fun h => h
theorem flat_ts : Flat tTs := flat_pair flat_str2 (flat_pair flat_int (flat_pair flat_str2 (flat_pair flat_int flat_int)))
theorem ts_rob {E : TypeId → Prop} {rb : Nat} {X : World} {nm nn : ByteArray} {op n att : Int} (h1 : nm.size ≤ 1125899906842624) (h2 : nn.size ≤ 1125899906842624) (f1 : fits op) (f2 : fits n) (f3 : fits att) :
    Rob tTs E rb X [.string nm, .int .i64 op, .string nn, .int .i64 n, .int .i64 att] (nm, op, nn, n, att) :=
  Rob.flat (B := 0) flat_ts ⟨[_], _, rfl, ⟨rfl, h1⟩, ⟨[_], _, rfl, ⟨rfl, f1⟩, ⟨[_], _, rfl, ⟨rfl, h2⟩, ⟨[_], [_], rfl, ⟨rfl, f2⟩, ⟨rfl, f3⟩⟩⟩⟩⟩ (by
    intro u hu
    simp only [List.mem_cons, List.not_mem_nil, or_false] at hu
    rcases hu with rfl | rfl | rfl | rfl | rfl <;> rfl)
theorem it_rob {E : TypeId → Prop} {rb : Nat} {X : World} {kd n rn rd sn sd att : Int} {nm : ByteArray} {v : Value} {ws : List (List Ts)} (h1 : nm.size ≤ 1125899906842624) (f1 : fits kd) (f2 : fits n) (f3 : fits rn) (f4 : fits rd) (f5 : fits sn) (f6 : fits sd) (f7 : fits att)
    (hw : Rob (tSlice (tSlice tTs)) E rb X [v] ws) : Rob tIt E rb X [.int .i64 kd, .string nm, v, .int .i64 n, .int .i64 rn, .int .i64 rd, .int .i64 sn, .int .i64 sd, .int .i64 att] (kd, nm, ws, n, (rn, rd), (sn, sd), att) := by
  refine ⟨fun u hu => ?_, fun X' ho => ⟨[_], _, rfl, ⟨rfl, f1⟩, ⟨[_], _, rfl, ⟨rfl, h1⟩, ⟨[_], _, rfl, hw.2 X' ho, ⟨[_], _, rfl, ⟨rfl, f2⟩, ⟨[_, _], _, rfl, ⟨[_], [_], rfl, ⟨rfl, f3⟩, ⟨rfl, f4⟩⟩, ⟨[_, _], _, rfl, ⟨[_], [_], rfl, ⟨rfl, f5⟩, ⟨rfl, f6⟩⟩, ⟨rfl, f7⟩⟩⟩⟩⟩⟩⟩⟩
  have hv := hw.1 v (by simp)
  simp only [List.mem_cons, List.not_mem_nil, or_false] at hu
  rcases hu with rfl | rfl | rfl | rfl | rfl | rfl | rfl | rfl | rfl <;> first | rfl | exact hv
theorem turnW_len (ws : List (List Ts)) : (turnW ws).length = ws.length := by simp [turnW]
theorem turnW_step {ws : List (List Ts)} {j : Nat} {l : List Ts} (h : ws[j]? = some l) : turnW (ws.drop j) = turnW (ws.drop (j + 1)) ++ [l.reverse] := by
  obtain ⟨hj, rfl⟩ := List.getElem?_eq_some_iff.1 h
  unfold turnW
  rw [List.drop_eq_getElem_cons hj, List.reverse_cons, List.map_append]
  rfl
theorem rev_step {l : List Ts} {q : Nat} {t : Ts} (h : l[q]? = some t) : (l.drop q).reverse = (l.drop (q + 1)).reverse ++ [t] := by
  obtain ⟨hj, rfl⟩ := List.getElem?_eq_some_iff.1 h
  rw [List.drop_eq_getElem_cons hj, List.reverse_cons]
theorem map_take_step {l : List It} {i : Nat} {x : It} (h : l[i]? = some x) : (l.take (i + 1)).map turnI = (l.take i).map turnI ++ [turnI x] := by
  rw [List.take_add_one, h, List.map_append]
  rfl

set_option maxRecDepth 100000 in
set_option maxHeartbeats 4000000 in
theorem order12 (A : Option Addr) (its : List It) (cap : Nat) (hn : ByteArray) (x y : Int) (AH : Option Addr) (lh : List Le) (ch : Nat) (f : Fc) (w : World) (h : Elems tIt w w.heap.size A its) (hh : Elems tLe w w.heap.size AH lh) (hcap : its.length ≤ cap) (hcm : cap ≤ 9223372036854775807) (hlh : lh.length ≤ 9223372036854775807) (hf : f.length = 10) :
    Calls Try.prog 6 #[.agg #[.slice A its.length cap], .agg #[.string hn, .int .i64 x, .int .i64 y, .slice AH lh.length ch], .agg (fcV f)] w fun e w' => e = .returned (.bool true) ∧ Below w.heap.size w w' := by
  have HH := Lib.hid (And.intro h hh)
  clear h hh
  go_enter Try.func6, Try.ntmps6
  go_wp2_with fail
  refine (head_any _).mono ?_
  rintro e w1 ⟨rfl, hb⟩
  have HB := Lib.hid hb
  clear hb
  go_upto_region 2 with (fail)
  refine forget (fun W => Below w.heap.size w W ∧ Bk W w.heap.size #[.slice A its.length cap] 24 ∧ Bk W (w.heap.size + 1) #[.string hn, .int .i64 x, .int .i64 y, .slice AH lh.length ch] 29 ∧ Bk W (w.heap.size + 1 + 1) (fcV f) 48) ⟨Below.trans0 (Below.alloc0 (Below.alloc0 (below_self _ _) _) _) HB.out, (((Bk.new w _ _).alloc _).alloc _).below HB.out, ((bk_next w _ _ _).alloc _).below HB.out, (bk_new_at _ _ _ _ (by simp)).below HB.out⟩ ?_
  clear HB
  rintro W ⟨hw, b0, b1, b2⟩
  have c0 := b0.cell
  have c1 := b1.cell
  have l0 := b0.lt
  have l1 := b1.lt
  have l2 := b2.lt
  have HW := Lib.hid (And.intro hw (And.intro b0 (And.intro b1 b2)))
  clear hw b0 b1 b2
  obtain ⟨q1, hq1⟩ : ∃ v, fewB its = v := ⟨_, rfl⟩
  obtain ⟨q2, hq2⟩ : ∃ v, smallB lh = v := ⟨_, rfl⟩
  obtain ⟨q3, hq3⟩ : ∃ v, inZ limZ f = v := ⟨_, rfl⟩
  have HQ1 := Lib.hid hq1
  have HQ2 := Lib.hid hq2
  have HQ3 := Lib.hid hq3
  have HF := Lib.hid hf
  have hin : its.length ≤ 9223372036854775807 := by omega
  clear hq1 hq2 hq3 hf
  cases q1
  · refine wp_region_ext W (by kernel_rfl) (by kernel_rfl) ?_
    repeat (go_big_quiet_step ((first | (go_at_call 10; exact Calls.in_ext (few_in HH.out.1 hin _ HQ1.out _ (Below.ext0 HW.out.1 _))) | (go_at_call 11; exact Calls.in_ext (small_in HH.out.2 hlh _ HQ2.out _ (Below.ext0 HW.out.1 _))))))
    refine wpQuiet_nil (fun v => ?_)
    go_wp2_with fail
    go_ret
    exact ⟨rfl, Below.ext0 HW.out.1 _⟩
  cases q2
  · refine wp_region_ext W (by kernel_rfl) (by kernel_rfl) ?_
    repeat (go_big_quiet_step ((first | (go_at_call 10; exact Calls.in_ext (few_in HH.out.1 hin _ HQ1.out _ (Below.ext0 HW.out.1 _))) | (go_at_call 11; exact Calls.in_ext (small_in HH.out.2 hlh _ HQ2.out _ (Below.ext0 HW.out.1 _))))))
    refine wpQuiet_nil (fun v => ?_)
    go_wp2_with fail
    go_ret
    exact ⟨rfl, Below.ext0 HW.out.1 _⟩
  cases q3
  · refine wp_region_ext W (by kernel_rfl) (by kernel_rfl) ?_
    iterate 9 (go_big_quiet_step ((first | (go_at_call 10; exact Calls.in_ext (few_in HH.out.1 hin _ HQ1.out _ (Below.ext0 HW.out.1 _))) | (go_at_call 11; exact Calls.in_ext (small_in HH.out.2 hlh _ HQ2.out _ (Below.ext0 HW.out.1 _))))))
    go_big_quiet_step ((go_at_call 14; exact Calls.in_ext (limits_any _)))
    go_big_quiet_want
    refine quiet_load_at _ _ rfl (w.heap.size + 1 + 1) 0 rfl (fcV f) _ (fun w9 hw9 j u hu => by obtain ⟨u9, rfl⟩ := hw9; rw [ext_cell _ _ l2, Nat.zero_add, HW.out.2.2.2.cell]; exact hu) Try.underlying48 rfl (by rw [fcV_size HF.out]; kernel_rfl) ?_
    go_simp
    go_big_quiet_on
    go_big_quiet_step ((go_at_call 18; exact Calls.in_ext (in_any limZ f _ rfl HF.out _ HQ3.out)))
    repeat (go_big_quiet_step (fail))
    refine wpQuiet_nil (fun v => ?_)
    go_wp2_with fail
    go_ret
    exact ⟨rfl, Below.ext0 HW.out.1 _⟩
  refine wp_region_ext W (by kernel_rfl) (by kernel_rfl) ?_
  iterate 9 (go_big_quiet_step ((first | (go_at_call 10; exact Calls.in_ext (few_in HH.out.1 hin _ HQ1.out _ (Below.ext0 HW.out.1 _))) | (go_at_call 11; exact Calls.in_ext (small_in HH.out.2 hlh _ HQ2.out _ (Below.ext0 HW.out.1 _))))))
  go_big_quiet_step ((go_at_call 14; exact Calls.in_ext (limits_any _)))
  go_big_quiet_want
  refine quiet_load_at _ _ rfl (w.heap.size + 1 + 1) 0 rfl (fcV f) _ (fun w9 hw9 j u hu => by obtain ⟨u9, rfl⟩ := hw9; rw [ext_cell _ _ l2, Nat.zero_add, HW.out.2.2.2.cell]; exact hu) Try.underlying48 rfl (by rw [fcV_size HF.out]; kernel_rfl) ?_
  go_simp
  go_big_quiet_on
  go_big_quiet_step ((go_at_call 18; exact Calls.in_ext (in_any limZ f _ rfl HF.out _ HQ3.out)))
  repeat (go_big_quiet_step (fail))
  refine wpQuiet_nil (fun v => ?_)
  obtain ⟨L, hL⟩ : ∃ L, (lvlsN lh, blksN lh) = L := ⟨_, rfl⟩
  have HL := Lib.hid hL
  have HC0 := Lib.hid (fun (A : Option Addr) (ls : List It) (cap : Nat) (X : World) (B : Nat) (hE : Elems tIt X B A ls) (hwB : w.heap.size ≤ B) (hB : B ≤ X.heap.size) (hX : Below w.heap.size w X) (hl : ls.length ≤ 210) (hm : ∀ x ∈ ls, x.2.2.1.length ≤ 12 ∧ ∀ l ∈ x.2.2.1, l.length ≤ 8) (hc : ls.length ≤ cap) (hcm : cap ≤ 9223372036854775807) =>
    compile_any A ls cap hn x y AH lh ch X B hE (HH.out.2.keep hX hwB) hB hl hc hcm hm (smallB_spec HQ2.out).1 (smallB_spec HQ2.out).2 L HL.out)
  have HFw := Lib.hid (fewB_spec HQ1.out)
  have hil := (fewB_spec HQ1.out).1
  clear hL
  go_upto_region 4 with (fail)
  refine forget (fun X => Below w.heap.size w X ∧ Bk X w.heap.size #[.slice A its.length cap] 24 ∧ Bk X (w.heap.size + 1) #[.string hn, .int .i64 x, .int .i64 y, .slice AH lh.length ch] 29 ∧ Bk X (w.heap.size + 1 + 1) (fcV f) 48) ⟨Below.ext0 HW.out.1 _, HW.out.2.1.ext _, HW.out.2.2.1.ext _, HW.out.2.2.2.ext _⟩ ?_
  clear HW c0 c1 l0 l1 l2
  rintro X ⟨hX, b0, b1, b2⟩
  have HX := Lib.hid (And.intro hX (And.intro b0 (And.intro b1 b2)))
  clear hX b0 b1 b2
  go_upto_region 5 with (fail)
  refine forget (fun X0 => Below X.heap.size X X0 ∧ Bk X0 X.heap.size #[.slice none 0 0] 24) ⟨below_self _ _, Bk.new _ _ _⟩ ?_
  rintro X0 ⟨hX0, bg⟩
  have HX0 := Lib.hid (And.intro hX0 bg)
  clear hX0 bg
  have hwX : w.heap.size + 1 + 1 < X.heap.size := HX.out.2.2.2.lt
  obtain ⟨RB, hRB⟩ : ∃ B, X.heap.size + 1 = B := ⟨_, rfl⟩
  go_wp2_with fail
  go_loopw [9, 10, 11, 12, 13] (fun i _ _ _ _ wr => ∃ (k : Nat) (v : Value), k ≤ its.length ∧ i = .int .i64 k ∧ Below X.heap.size X wr ∧ Bk wr X.heap.size #[v] 24 ∧ OwnQ tIt 57 (fun t => t ≠ 64 ∧ t ≠ 62) X.heap.size wr RB v ((its.take k).map turnI)) (fun i _ _ _ _ _ => its.length - (intOf i).toNat)
  case atStart => exact ⟨0, _, by omega, rfl, HX0.out.1, HX0.out.2, OwnQ.nil⟩
  case round =>
    obtain ⟨k, v, hk, rfl, hlow, bg, hown⟩ := hrel
    generalize wr = wA at *
    have hzA := hlow.size
    have b0 := HX.out.2.1.below hlow
    have c0 : wA.cell? ⟨w.heap.size, 0, none⟩ = some (.slice A its.length cap) := b0.cell 0
    have l0 := b0.lt
    have hRA : RB ≤ wA.heap.size := by have := bg.lt; omega
    by_cases hlt : k < its.length
    · obtain ⟨ib, io, ikd, inm, AW, ws, cw, iN, irn, ird, isn, isd, iatt, rfl, hib, Hik, i0, i1, i2, i3, i4, i5, i6, i7, i8, ig1, ig2, ig3, if1, if2, if3, if4, if5, if6, if7, ig4⟩ := pick_it (HH.out.1.keep (Below.trans0 HX.out.1 hlow) (Nat.le_refl _)) hlt
      have hkil : (k : Int) < (its.length : Int) := by omega
      have ibw : ib < wA.heap.size := by omega
      have Hst := Lib.hid (map_take_step Hik.out)
      have hlen : ((its.take k).map turnI).length ≤ 210 := by rw [List.length_map, List.length_take]; omega
      obtain ⟨hws12, hws8⟩ := HFw.out.2 _ (List.mem_of_getElem? Hik.out)
      have HA := Lib.hid (And.intro hlow (And.intro bg (And.intro hown (And.intro ig3.out hws8))))
      clear hlow bg hown ig4 ig3 Hik b0 hws8
      go_upto_region 10 with (fail)
      refine forget (fun Y => Below wA.heap.size wA Y ∧ Bk Y wA.heap.size #[.int .i64 ikd, .string inm, .slice none 0 0, .int .i64 iN, .int .i64 irn, .int .i64 ird, .int .i64 isn, .int .i64 isd, .int .i64 iatt] 57) ⟨below_self wA _, Bk.new wA _ _⟩ ?_
      rintro Y ⟨hY, bi⟩
      have hYz := hY.size
      have e0 : Y.cell? ⟨w.heap.size, 0, none⟩ = some (.slice (some ⟨ib, io, none⟩) its.length cap) := (hY.cell (p := ⟨_, _, none⟩) l0).trans c0
      have e2 : Y.cell? ⟨ib, io + k * 9 + 2, none⟩ = some (.slice AW ws.length cw) := (hY.cell (p := ⟨_, _, none⟩) ibw).trans i2
      have m0 : w.heap.size < Y.heap.size := by omega
      have mb : ib < Y.heap.size := by omega
      have HY := Lib.hid (And.intro hY bi)
      clear hY bi
      go_wp2_with fail
      clear e0 e2 m0 mb
      go_loopw [11, 12, 13] (fun i _ _ wr => ∃ (j : Nat) (v : Value), j ≤ ws.length ∧ i = .int .i64 ((j : Int) - 1) ∧ Below wA.heap.size wA wr ∧ Bk wr wA.heap.size #[.int .i64 ikd, .string inm, v, .int .i64 iN, .int .i64 irn, .int .i64 ird, .int .i64 isn, .int .i64 isd, .int .i64 iatt] 57 ∧ OwnQ (tSlice tTs) 62 (fun t => t ≠ 64) X.heap.size wr (wA.heap.size + 1) v (turnW (ws.drop j))) (fun i _ _ _ => (intOf i + 1).toNat)
      case atStart => exact ⟨ws.length, _, Nat.le_refl _, rfl, HY.out.1, HY.out.2, by rw [List.drop_length]; exact OwnQ.nil⟩
      case round =>
        obtain ⟨j, v2, hj, rfl, hw2, bi, hq⟩ := hrel
        generalize wr = w2 at *
        have hz2 := hw2.size
        have tl := bi.lt
        by_cases hj0 : j = 0
        · subst hj0
          have hn1 : ¬ ((0 : Nat) : Int) - 1 ≥ 0 := by omega
          have hdone : turnW (ws.drop 0) = turnW ws := rfl
          rw [hdone] at hq
          clear hdone
          obtain ⟨A5, c5, rfl, hc5, hm5⟩ := hq.form
          have hrob := it_rob ig1 if1 if2 if3 if4 if5 if6 if7 (OwnQ.rob (E' := fun t => t ≠ 64 ∧ t ≠ 62) hq (fun t ht => ht.1) (fun h => h.2 rfl))
          have bg2 := HA.out.2.1.below hw2
          obtain ⟨Ag, cg, rfl, hcg, hmg⟩ := HA.out.2.2.1.form
          have hog := HA.out.2.2.1.below hw2
          have d0 : w2.cell? ⟨wA.heap.size, 0, none⟩ = some (.int .i64 ikd) := bi.cell 0
          have d1 : w2.cell? ⟨wA.heap.size, 1, none⟩ = some (.string inm) := bi.cell 1
          have d2 : w2.cell? ⟨wA.heap.size, 2, none⟩ = some (.slice A5 (turnW ws).length c5) := bi.cell 2
          have d3 : w2.cell? ⟨wA.heap.size, 3, none⟩ = some (.int .i64 iN) := bi.cell 3
          have d4 : w2.cell? ⟨wA.heap.size, 4, none⟩ = some (.int .i64 irn) := bi.cell 4
          have d5 : w2.cell? ⟨wA.heap.size, 5, none⟩ = some (.int .i64 ird) := bi.cell 5
          have d6 : w2.cell? ⟨wA.heap.size, 6, none⟩ = some (.int .i64 isn) := bi.cell 6
          have d7 : w2.cell? ⟨wA.heap.size, 7, none⟩ = some (.int .i64 isd) := bi.cell 7
          have d8 : w2.cell? ⟨wA.heap.size, 8, none⟩ = some (.int .i64 iatt) := bi.cell 8
          have e0 : w2.cell? ⟨X.heap.size, 0, none⟩ = some (.slice Ag ((its.take k).map turnI).length cg) := bg2.cell 0
          have f0 := bg2.free 0
          have m0 := bg2.lt
          have hcg' : cg ≤ 9223372036854775807 := by unfold maxLen at hmg; omega
          have hR2 : RB ≤ w2.heap.size := by omega
          have H2 := Lib.hid (And.intro hw2 (And.intro bg2 (And.intro hog (And.intro hrob (HA.out.1.trans (hw2.mono hzA))))))
          have hst := Hst.out
          have e9 : turnI (ikd, inm, ws, iN, (irn, ird), (isn, isd), iatt) = (ikd, inm, turnW ws, iN, (irn, ird), (isn, isd), iatt) := rfl
          rw [e9] at hst
          have Hst2 := Lib.hid hst
          clear hw2 bi hq hrob bg2 hog hmg hm5 hc5 e9 hst hj i0 i1 i2 i3 i4 i5 i6 i7 i8 c0 l0 ibw hib
          generalize turnW ws = tw at *
          generalize (its.take k).map turnI = gk at *
          go_wp2_with (at_builtin; refine list_appendQ (T := tIt) (E := fun t => t ≠ 64 ∧ t ≠ 62) (rb := X.heap.size) (base := RB) (xs := gk) (v := .slice Ag gk.length cg) rfl _ _ _ rfl 96 Try.underlying22 (by kernel_rfl) (by decide) rfl (H2.out.2.2.1.below (below_self _ _)) (some ⟨w2.heap.size, 0, none⟩) 1 [.int .i64 ikd, .string inm, .slice A5 tw.length c5, .int .i64 iN, .int .i64 irn, .int .i64 ird, .int .i64 isn, .int .i64 isd, .int .i64 iatt] _ rfl (H2.out.2.2.2.1.below (below_self _ _)) (by have := lies_bk (Bk.new w2 #[.int .i64 ikd, .string inm, .slice A5 tw.length c5, .int .i64 iN, .int .i64 irn, .int .i64 ird, .int .i64 isn, .int .i64 isd, .int .i64 iatt] 57) 1; simpa using this) (by decide) (by omega) (by unfold maxLen; omega) (by omega) (by simp; omega) ?_; intro A8 c8 w8 hown8 hbel8 ho8; have b8 : Below RB w2 w8 := (((below_self w2 _).mono hR2).trans hbel8); have hg9 := H2.out.2.1.below' b8 (by omega); have c9 : w8.cell? ⟨X.heap.size, 0, none⟩ = some _ := hg9.cell 0; have f9 := hg9.free 0; have m9 := hg9.lt; have H8 := Lib.hid (And.intro hown8 (And.intro b8 hg9)); clear hown8 hbel8 ho8 b8 hg9)
          go_roundw
          case rel =>
            refine ⟨k + 1, .slice A8 (gk.length + 1) c8, by omega, by go_num, ?_, H8.out.2.2.set_ 0 _, ?_⟩
            · exact (H2.out.2.2.2.2.trans (H8.out.2.1.mono (by omega))).setCell (by simp) _
            · rw [Hst2.out]
              exact H8.out.1.set_ H8.out.2.2 (Nat.le_refl _) (by decide) (by decide) 0 _
          case measure => simp [intOf]; omega
        · obtain ⟨p, rfl⟩ : ∃ p, j = p + 1 := ⟨j - 1, by omega⟩
          have hpi : ((p + 1 : Nat) : Int) - 1 = (p : Int) := by omega
          rw [hpi]
          have hpl : p < ws.length := by omega
          have hsz : w.heap.size ≤ wA.heap.size := by omega
          obtain ⟨b, off, A1, l, c1, rfl, hb, Hl, g0, gl, HE⟩ := pick_and (HA.out.2.2.2.1.keep (hw2.mono hsz) (Nat.le_refl _)) hpl
          have hl8 := HA.out.2.2.2.2 _ (List.mem_of_getElem? Hl.out)
          have hpil : (p : Int) < (ws.length : Int) := by omega
          have hst := turnW_step Hl.out
          have Hst2 := Lib.hid (And.intro hst (HE.out))
          have b02 := HX.out.2.1.below (HA.out.1.trans (hw2.mono hzA))
          have e0 : w2.cell? ⟨w.heap.size, 0, none⟩ = some (.slice (some ⟨ib, io, none⟩) its.length cap) := b02.cell 0
          have m0 := b02.lt
          have e2 : w2.cell? ⟨ib, io + k * 9 + 2, none⟩ = some (.slice (some ⟨b, off, none⟩) ws.length cw) := (hw2.cell (p := ⟨_, _, none⟩) ibw).trans i2
          have mi : ib < w2.heap.size := by omega
          have mb : b < w2.heap.size := by omega
          have H2 := Lib.hid (And.intro hw2 (And.intro bi hq))
          have htl : (turnW (ws.drop (p + 1))).length ≤ 12 := by rw [turnW_len, List.length_drop]; omega
          clear hw2 bi hq hst b02
          generalize turnW (ws.drop (p + 1)) = tw at *
          go_wp2_with fail
          go_loopw [12, 13] (fun a i wr => ∃ (q : Nat), q ≤ l.length ∧ i = .int .i64 ((q : Int) - 1) ∧ Below w2.heap.size w2 wr ∧ OwnQ tTs 64 (fun _ => True) X.heap.size wr w2.heap.size a (l.drop q).reverse) (fun _ i _ => (intOf i + 1).toNat)
          case atStart => exact ⟨l.length, Nat.le_refl _, rfl, Below.refl _ _, by rw [List.drop_length]; exact OwnQ.nil⟩
          case round =>
            obtain ⟨q, hq, rfl, hw3, hown⟩ := hrel
            generalize wr = w3 at *
            have hz3 := hw3.size
            obtain ⟨A3, c3, rfl, hc3, hm3⟩ := hown.form
            have hc3' : c3 ≤ 9223372036854775807 := by unfold maxLen at hm3; omega
            by_cases hq0 : q = 0
            · subst hq0
              have hn1 : ¬ ((0 : Nat) : Int) - 1 ≥ 0 := by omega
              rw [List.drop_zero] at hown hc3 ⊢
              have hrob := OwnQ.rob (E' := fun t => t ≠ 64) hown (fun t ht => trivial) (fun h => h rfl)
              obtain ⟨A5, c5, rfl, hc5, hm5⟩ := H2.out.2.2.form
              have hc5' : c5 ≤ 9223372036854775807 := by unfold maxLen at hm5; omega
              have bi3 := H2.out.2.1.below hw3
              have d2 : w3.cell? ⟨wA.heap.size, 2, none⟩ = some (.slice A5 tw.length c5) := bi3.cell 2
              have f2 := bi3.free 2
              have m3 := bi3.lt
              have hX2 : X.heap.size ≤ wA.heap.size + 1 := by omega
              have hA3 : wA.heap.size + 1 ≤ w3.heap.size := by omega
              have H3 := Lib.hid (And.intro hw3 (And.intro bi3 (And.intro (H2.out.2.2.below hw3) hrob)))
              clear hw3 hown hrob bi3 hm3 hm5 e0 m0 e2 mi mb g0
              generalize l.reverse = rl at *
              go_wp2_with (at_builtin; refine list_appendQ (T := tSlice tTs) (E := fun t => t ≠ 64) (rb := X.heap.size) (base := wA.heap.size + 1) (xs := tw) (v := .slice A5 tw.length c5) rfl _ _ _ rfl 24 Try.underlying55 (by kernel_rfl) (by decide) rfl (H3.out.2.2.1.below (below_self _ _)) (some ⟨w3.heap.size, 0, none⟩) 1 [.slice A3 rl.length c3] rl rfl (H3.out.2.2.2.below (below_self _ _)) (by have := lies_bk (Bk.new w3 #[.slice A3 rl.length c3] 62) 1; simpa using this) (by decide) hX2 (by unfold maxLen; omega) (by omega) (by simp; omega) ?_; intro A8 c8 w8 hown8 hbel8 ho8; have b8 : Below (wA.heap.size + 1) w3 w8 := (((below_self w3 _).mono hA3).trans hbel8); have hg9 := H3.out.2.1.below' b8 (by omega); have c9 : w8.cell? ⟨wA.heap.size, 2, none⟩ = some _ := hg9.cell 2; have f9 := hg9.free 2; have m9 := hg9.lt; have H8 := Lib.hid (And.intro hown8 (And.intro b8 hg9)); clear hown8 hbel8 ho8 b8 hg9)
              go_roundw
              case rel =>
                refine ⟨p, .slice A8 (tw.length + 1) c8, by omega, by go_num, ?_, H8.out.2.2.set_ 2 _, ?_⟩
                · exact (H2.out.1.trans (H3.out.1.mono hz2)).trans ((H8.out.2.1.mono (by omega)).setCell (by simp) _)
                · rw [Hst2.out.1]
                  exact H8.out.1.set_ H8.out.2.2 (by omega) (by decide) (by decide) 2 _
              case measure => (simp [intOf] <;> omega)
            · obtain ⟨r, rfl⟩ : ∃ r, q = r + 1 := ⟨q - 1, by omega⟩
              have hri : ((r + 1 : Nat) : Int) - 1 = (r : Int) := by omega
              rw [hri]
              have hrl : r < l.length := by omega
              obtain ⟨tb, to', nm, op, nn, n, att, rfl, htb, Ht, t0, t1, t2, t3, t4, tn1, tn2, tf1, tf2, tf3⟩ := pick_ts (Hst2.out.2.keep (hw3.mono (by omega)) (Nat.le_refl _)) hrl
              have hril : (r : Int) < (l.length : Int) := by omega
              have hst := rev_step Ht.out
              have k0 : w3.cell? ⟨w.heap.size, 0, none⟩ = some (.slice (some ⟨ib, io, none⟩) its.length cap) := (hw3.cell (p := ⟨_, _, none⟩) m0).trans e0
              have k2 : w3.cell? ⟨ib, io + k * 9 + 2, none⟩ = some (.slice (some ⟨b, off, none⟩) ws.length cw) := (hw3.cell (p := ⟨_, _, none⟩) mi).trans e2
              have k3 : w3.cell? ⟨b, off + p, none⟩ = some (.slice (some ⟨tb, to', none⟩) l.length c1) := (hw3.cell (p := ⟨_, _, none⟩) mb).trans g0
              have y0 : w.heap.size < w3.heap.size := by omega
              have y1 : ib < w3.heap.size := by omega
              have y2 : b < w3.heap.size := by omega
              have y3 : tb < w3.heap.size := by omega
              have hX3 : X.heap.size ≤ w2.heap.size := by omega
              have hdl : (l.drop (r + 1)).reverse.length ≤ 8 := by rw [List.length_reverse, List.length_drop]; omega
              have H3 := Lib.hid (And.intro hw3 (And.intro hown hst))
              clear hw3 hown hst hm3
              generalize (l.drop (r + 1)).reverse = dr at *
              go_wp2_with (at_builtin; refine list_appendQ (T := tTs) (E := fun _ => True) (rb := X.heap.size) (base := w2.heap.size) (xs := dr) (v := .slice A3 dr.length c3) rfl _ _ _ rfl 56 Try.underlying62 (by kernel_rfl) (by decide) rfl (H3.out.2.1.below (below_self _ _)) (some ⟨w3.heap.size, 0, none⟩) 1 [.string nm, .int .i64 op, .string nn, .int .i64 n, .int .i64 att] (nm, op, nn, n, att) rfl (ts_rob tn1 tn2 tf1 tf2 tf3) (by have := lies_bk (Bk.new w3 #[.string nm, .int .i64 op, .string nn, .int .i64 n, .int .i64 att] 64) 1; simpa using this) trivial hX3 (by unfold maxLen; omega) (by omega) (by simp; omega) ?_; intro A8 c8 w8 hown8 hbel8 ho8; have b8 : Below w2.heap.size w3 w8 := (((below_self w3 _).mono hz3).trans hbel8); have H8 := Lib.hid (And.intro hown8 b8); clear hown8 hbel8 ho8 b8)
              go_roundw
              case rel => exact ⟨r, by omega, by go_num, H3.out.1.trans H8.out.2, by rw [H3.out.2.2]; exact H8.out.1⟩
              case measure => (simp [intOf] <;> omega)
    · obtain rfl : k = its.length := by omega
      rw [List.take_length] at hown
      obtain ⟨Ag, cg, rfl, hcg, hmg⟩ := hown.form
      have hcg' : cg ≤ 9223372036854775807 := by unfold maxLen at hmg; omega
      have hTl : (its.map turnI).length ≤ 210 := by rw [List.length_map]; exact hil
      have hTm : ∀ x ∈ its.map turnI, x.2.2.1.length ≤ 12 ∧ ∀ l ∈ x.2.2.1, l.length ≤ 8 := fun x hx => by
        obtain ⟨z, hz, rfl⟩ := List.mem_map.1 hx
        obtain ⟨h1, h2⟩ := HFw.out.2 z hz
        refine ⟨by show (turnW z.2.2.1).length ≤ 12; rw [turnW_len]; exact h1, fun l hl => ?_⟩
        obtain ⟨l', h3, rfl⟩ := List.mem_map.1 (show l ∈ z.2.2.1.reverse.map List.reverse from hl)
        rw [List.length_reverse]
        exact h2 l' (by simpa using h3)
      have hfl := fp_turn L its
      have hpl := rp_turn L its
      have hany := fun (k : Nat) (r s : Rl) (h1 : (rulesP L its)[k]? = some r) (h2 : (rulesP L (its.map turnI))[k]? = some s) => any_turn (fun z => inZ z f) h1 h2
      have hEg := hown.elems
      have b1 := HX.out.2.2.1.below hlow
      have HA := Lib.hid (And.intro hlow (And.intro bg hEg))
      have c1 := b1.cell
      have l1 := b1.lt
      generalize its.map turnI = tits at *
      obtain ⟨ps, hps⟩ : ∃ ps, rulesP L its = ps := ⟨_, rfl⟩
      obtain ⟨fs, hfs⟩ : ∃ fs, faultsP L its = fs := ⟨_, rfl⟩
      obtain ⟨qs, hqs⟩ : ∃ ps, rulesP L tits = ps := ⟨_, rfl⟩
      obtain ⟨gs, hgs⟩ : ∃ fs, faultsP L tits = fs := ⟨_, rfl⟩
      have hpsl : ps.length ≤ 210 := by
        rw [← hps]
        by_cases h : faultsP L its = []
        · rw [rules_len h]; exact hil
        · rw [rules_none h]; simp
      rw [hps, hqs] at hany hpl
      rw [hfs, hgs] at hfl
      have HP := Lib.hid (And.intro hps (And.intro hfs (And.intro hqs (And.intro hgs (And.intro hany (And.intro hfl hpl))))))
      have HT := Lib.hid (And.intro hTl hTm)
      clear hps hfs hqs hgs hany hfl hpl hTl hTm hlow bg hown hEg hmg b0 b1 HX0
      go_upto_region 21 with (go_at_call 12; refine (HC0.out A its cap _ w.heap.size (HH.out.1.keep (Below.trans0 HX.out.1 HA.out.1) (Nat.le_refl _)) (Nat.le_refl _) (by omega) (Below.trans0 HX.out.1 HA.out.1) hil HFw.out.2 hcap hcm).mono ?_; rintro e w' ⟨hbC, A1, c1', A2, c2', he, hr, hfa⟩; rw [HP.out.1, HP.out.2.1] at he; rw [HP.out.1] at hr; subst he; have HC := Lib.hid (And.intro hbC hr); clear hbC hr hfa)
      have hbA : Below X.heap.size X w' := Below.trans0 HA.out.1 HC.out.1
      refine forget (fun Y => Below w.heap.size w Y ∧ Bk Y (w.heap.size + 1) #[.string hn, .int .i64 x, .int .i64 y, .slice AH lh.length ch] 29 ∧ Bk Y (w.heap.size + 1 + 1) (fcV f) 48 ∧ Bk Y X.heap.size #[.slice Ag tits.length cg] 24 ∧ Elems tIt Y Y.heap.size Ag tits ∧ Bk Y w'.heap.size #[.slice A1 ps.length c1'] 35 ∧ Elems tRl Y Y.heap.size A1 ps) ⟨Below.alloc0 (Below.trans0 HX.out.1 hbA) _, (HX.out.2.2.1.below hbA).alloc _, (HX.out.2.2.2.below hbA).alloc _, (HA.out.2.1.below HC.out.1).alloc _, HA.out.2.2.keep (Below.alloc0 HC.out.1 _) (by have := HC.out.1.size; simp; omega), Bk.new _ _ _, HC.out.2.keep (below_self _ _) (by simp)⟩ ?_
      clear hbA HC HA c0 l0 c1 l1 HX hRA hzA
      generalize w'.heap.size = pb at *
      generalize X.heap.size = xb at *
      rintro Y ⟨hY, b1, b2, bg, hEg, bp, hr⟩
      have g0 : Y.cell? ⟨xb, 0, none⟩ = some (.slice Ag tits.length cg) := bg.cell 0
      have lg := bg.lt
      have c1 := b1.cell
      have l1 := b1.lt
      have HY := Lib.hid (And.intro hY (And.intro b1 (And.intro b2 (And.intro bg (And.intro hEg (And.intro bp hr))))))
      have hwY := hY.size
      clear hY b1 b2 bg hEg bp hr
      go_upto_region 22 with (go_at_call 12; refine (HC0.out Ag tits cg _ Y.heap.size HY.out.2.2.2.2.1 hwY (Nat.le_refl _) HY.out.1 HT.out.1 HT.out.2 hcg hcg').mono ?_; rintro e w' ⟨hbC, A3, c3', A4, c4', he, hr, hfa⟩; rw [HP.out.2.2.1, HP.out.2.2.2.1] at he; rw [HP.out.2.2.1] at hr; subst he; have HC := Lib.hid (And.intro hbC hr); clear hbC hr hfa)
      refine forget (fun Z => Below w.heap.size w Z ∧ Bk Z (w.heap.size + 1 + 1) (fcV f) 48 ∧ Bk Z pb #[.slice A1 ps.length c1'] 35 ∧ Elems tRl Z Z.heap.size A1 ps ∧ Bk Z w'.heap.size #[.slice A3 qs.length c3'] 35 ∧ Elems tRl Z Z.heap.size A3 qs) ⟨Below.alloc0 (Below.trans0 HY.out.1 HC.out.1) _, (HY.out.2.2.1.below HC.out.1).alloc _, (HY.out.2.2.2.2.2.1.below HC.out.1).alloc _, HY.out.2.2.2.2.2.2.keep (Below.alloc0 HC.out.1 _) (by have := HC.out.1.size; simp; omega), Bk.new _ _ _, HC.out.2.keep (below_self _ _) (by simp)⟩ ?_
      clear HC HY g0 lg c1 l1
      generalize w'.heap.size = qb at *
      rintro Z ⟨hZ, b2, bp, hr, bq, hs⟩
      have p0 : Z.cell? ⟨pb, 0, none⟩ = some (.slice A1 ps.length c1') := bp.cell 0
      have lp := bp.lt
      have q0 : Z.cell? ⟨qb, 0, none⟩ = some (.slice A3 qs.length c3') := bq.cell 0
      have lq := bq.lt
      have HZ := Lib.hid (And.intro hZ (And.intro b2 (And.intro bp (And.intro hr (And.intro bq hs)))))
      clear hZ b2 bp hr bq hs
      have hq1 : ((fs.length : Int) != (gs.length : Int)) = false := by
        have := HP.out.2.2.2.2.2.1
        simpa using (show (fs.length : Int) = gs.length by omega)
      have hq2 : ((ps.length : Int) != (qs.length : Int)) = false := by
        have := HP.out.2.2.2.2.2.2
        simpa using (show (ps.length : Int) = qs.length by omega)
      go_wp2_with fail
      clear hq1 hq2 p0 lp q0 lq
      go_loopw [18] (fun i wr => ∃ (k : Nat), k ≤ ps.length ∧ i = .int .i64 k ∧ Below Z.heap.size Z wr) (fun i _ => ps.length - (intOf i).toNat)
      case atStart => exact ⟨0, by omega, rfl, Below.refl _ _⟩
      case round =>
        obtain ⟨k, hk, rfl, hwr⟩ := hrel
        generalize wr = wB at *
        have hwz := hwr.size
        have p0 : wB.cell? ⟨pb, 0, none⟩ = some (.slice A1 ps.length c1') := (HZ.out.2.2.1.below hwr).cell 0
        have lp := (HZ.out.2.2.1.below hwr).lt
        have q0 : wB.cell? ⟨qb, 0, none⟩ = some (.slice A3 qs.length c3') := (HZ.out.2.2.2.2.1.below hwr).cell 0
        have lq := (HZ.out.2.2.2.2.1.below hwr).lt
        by_cases hlt : k < ps.length
        · have hltq : k < qs.length := by have := HP.out.2.2.2.2.2.2; omega
          obtain ⟨b, off, kd, nm, AZ, zs, zc, num, rn, rd, sn, sd, rfl, hb, Hk, d0, d1, d2, d3, d4, d5, d6, d7, _, hzc, hzm, hEZ, _, _⟩ := pick_rule (HZ.out.2.2.2.1.keep hwr (Nat.le_refl _)) hlt
          obtain ⟨b', off', kd', nm', AZ', zs', zc', num', rn', rd', sn', sd', rfl, hb', Hk', d0', d1', d2', d3', d4', d5', d6', d7', _, hzc', hzm', hEZ', _, _⟩ := pick_rule (HZ.out.2.2.2.2.2.keep hwr (Nat.le_refl _)) hltq
          have hsame := HP.out.2.2.2.2.1 k _ _ Hk.out Hk'.out
          have hkl : (k : Int) < (ps.length : Int) := by omega
          have hkq : (k : Int) < (qs.length : Int) := by omega
          have bw : b < wB.heap.size := by omega
          have bw' : b' < wB.heap.size := by omega
          obtain ⟨rv, hrv⟩ : ∃ r, (zs.any fun z => inZ z f) = r := ⟨_, rfl⟩
          have b2 := HZ.out.2.1.below hwr
          have lf := b2.lt
          have HM := Lib.hid (And.intro hrv (And.intro (hsame.symm.trans hrv) (And.intro hEZ (And.intro hEZ' (And.intro hwr b2)))))
          have hzl : zs.length ≤ 9223372036854775807 := by unfold maxLen at hzm; omega
          have hzl' : zs'.length ≤ 9223372036854775807 := by unfold maxLen at hzm'; omega
          clear hrv hsame hEZ hEZ' hwr b2 Hk Hk' hzc hzm hzc' hzm' d0 d1 d3 d4 d5 d6 d7 d0' d1' d3' d4' d5' d6' d7'
          cases rv
          all_goals
            go_wp2_with fail
            refine wp_region_ext wB (by kernel_rfl) (by kernel_rfl) ?_
            iterate 6 (go_big_quiet_step (fail))
            go_big_quiet_want
            refine quiet_load_at _ _ rfl (w.heap.size + 1 + 1) 0 rfl (fcV f) _ (fun w9 hw9 j u hu => by obtain ⟨u9, rfl⟩ := hw9; rw [ext_cell _ _ lf, Nat.zero_add, HM.out.2.2.2.2.2.cell]; exact hu) Try.underlying48 rfl (by rw [fcV_size HF.out]; kernel_rfl) ?_
            go_simp
            go_big_quiet_on
            go_big_quiet_step ((go_at_call 19; exact Calls.in_ext (applies_any AZ zs _ zc f _ Z.heap.size (HM.out.2.2.1.keep ((below_ext _ _).mono hwz) (Nat.le_refl _)) (Nat.le_trans hwz (size_ext _ _)) rfl hzl HF.out _ HM.out.1)))
            iterate 6 (go_big_quiet_step (fail))
            go_big_quiet_want
            refine quiet_load_at _ _ rfl (w.heap.size + 1 + 1) 0 rfl (fcV f) _ (fun w9 hw9 j u hu => by obtain ⟨u9, rfl⟩ := hw9; rw [ext_cell _ _ lf, Nat.zero_add, HM.out.2.2.2.2.2.cell]; exact hu) Try.underlying48 rfl (by rw [fcV_size HF.out]; kernel_rfl) ?_
            go_simp
            go_big_quiet_on
            go_big_quiet_step ((go_at_call 19; exact Calls.in_ext (applies_any AZ' zs' _ zc' f _ Z.heap.size (HM.out.2.2.2.1.keep ((below_ext _ _).mono hwz) (Nat.le_refl _)) (Nat.le_trans hwz (size_ext _ _)) rfl hzl' HF.out _ HM.out.2.1)))
            repeat (go_big_quiet_step (fail))
            refine wpQuiet_nil (fun v => ?_)
            go_wp2_with fail
            go_roundw
            case rel => exact ⟨k + 1, by omega, by go_num, HM.out.2.2.2.2.1.trans ((below_ext wB v).mono hwz)⟩
            case measure => simp [intOf]; omega
        · have HM := Lib.hid hwr
          clear hwr
          go_wp2_with fail
          go_ret
          exact ⟨rfl, Below.trans0 HZ.out.1 HM.out⟩
theorem opensFc : Opens Try.prog 48 tFc := opens_arr Try.underlying48 (by kernel_rfl) (opens_int Try.underlying3 (by kernel_rfl))
theorem fac_of {w : World} {cs : Array Value} {y : Fc} (h : tFc.rd w w.heap.size cs.toList y) : Value.agg cs = .agg (fcV y) ∧ y.length = 10 := by
  obtain ⟨h1, h2, _⟩ := fc_cells h
  obtain ⟨l⟩ := cs
  simp only at h1
  subst h1
  exact ⟨rfl, h2⟩
set_option maxRecDepth 100000 in
theorem resolveOrder_lifted (os : Os) (started : os.Started) (H : Type) (enc : TypeId × Value → H) :
    ReturnsInHanded {} Try.checked os 6 .any (Rows.resolveOrderSpec.pre6 enc Try.prog Try.f6 [] false) (Rows.resolveOrderSpec.post enc Try.prog Try.f6 false true false false) := by
  refine law_liftedZ (C := Try.checked) own started (by kernel_rfl) Try.func6 rfl (fun ds hds => ?_) (tb := 4) (by kernel_rfl) Try.underlying4 laidOut (fun t ht => ?_)
    (ChangeSpec.witness6 (enc := enc) (C := Try.checked) false ⟨#[], #[.agg #[.slice none 0 0], .agg #[.string ⟨#[]⟩, .int .i64 0, .int .i64 0, .slice none 0 0], .agg #[.int .i64 0, .int .i64 0, .int .i64 0, .int .i64 0, .int .i64 0, .int .i64 0, .int .i64 0, .int .i64 0, .int .i64 0, .int .i64 0]], []⟩ 8 (by kernel_rfl) (by kernel_rfl) (by kernel_rfl) (by kernel_rfl)) ?_
  · rw [Try.params6] at hds
    match ds, hds with
    | [_, _, _], _ => rfl
  · have := List.all_eq_true.1 (show (Try.f6.params.toList.all fun t => Try.prog.readableRec t && decide (t < Try.prog.types.size)) = true by kernel_rfl) t ht
    simp only [Bool.and_eq_true, decide_eq_true_eq] at this
    exact this
  · intro W args g
    rw [Try.params6] at g
    obtain ⟨v0, q0, e0, g0, h0⟩ := g.cons_inv
    obtain ⟨v1, q1, rfl, g1, h1⟩ := h0.cons_inv
    obtain ⟨v2, q2, rfl, g2, h2⟩ := h1.cons_inv
    obtain rfl := h2.nil_inv
    obtain rfl : args = #[v0, v1, v2] := by cases args; simp_all
    obtain ⟨c0, y0, rfl, r0⟩ := g0.agg Try.underlying24 opensRules
    obtain ⟨c1, y1, rfl, r1⟩ := g1.agg Try.underlying29 opensHa
    obtain ⟨c2, y2, rfl, r2⟩ := g2.got.arr Try.underlying48 opensFc
    obtain ⟨A, cap, e1, b1, b2, b3⟩ := items_of r0
    obtain ⟨hn, a, b, AH, ch, e2, b4, b5, b6, b7, b8⟩ := hall_of r1
    obtain ⟨e3, b9⟩ := fac_of r2
    rw [e1, e2, e3]
    exact order12 A y0 cap hn a b AH y1.2.2 ch y2 W b3 b7 b1 b2 b4 b9

theorem resolveOrder_holds : Rows.ResolveOrderSaid :=
  OpenClaim.holds_of_wide 6 Try.f6 rfl rfl rfl rfl rfl rfl rfl ⟨rfl, rfl, rfl, rfl, rfl⟩ rfl rfl rfl rfl rfl (by kernel_rfl) Try.func6 (by kernel_rfl)
    (of_decide_eq_true (by kernel_rfl)) (by unfold Func.isWrapper; first | (rw [if_pos (by decide +kernel)]; kernel_rfl) | (rw [if_neg (by decide +kernel)]; exact ⟨rfl, rfl⟩))
    (fun os started H enc _ => resolveOrder_lifted os started H enc)
#print axioms resolveOrder_holds


end Go.Proofs.Ytecjhniomjmocaa
