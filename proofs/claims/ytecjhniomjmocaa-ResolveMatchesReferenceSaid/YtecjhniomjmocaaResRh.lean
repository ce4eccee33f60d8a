/- Layer 12 (resolve), the reference: the zones of an alternative without errors. -/
import Derived.Test.YtecjhniomjmocaaResRg
namespace Go.Proofs.Ytecjhniomjmocaa
open Go.RowKit Go.ChangeAt
set_option linter.unusedVariables false
set_option linter.unusedSimpArgs false
attribute [local go_sem] ext_cell ext_frozen lt_ext ext_drew

theorem flat_rg : Flat tRg := flat_pair flat_int flat_int
theorem pick_rg {w : World} {B : Nat} {A : Option Addr} {rs : List Rg} (h : Elems tRg w B A rs) {k : Nat} (hk : k < rs.length) :
    ∃ b off lo hi, A = some ⟨b, off, none⟩ ∧ b < B ∧ Hid (rs[k]? = some (lo, hi)) ∧ w.cell? ⟨b, off + k * 2, none⟩ = some (.int .i64 lo) ∧ w.cell? ⟨b, off + k * 2 + 1, none⟩ = some (.int .i64 hi) ∧ fits lo ∧ fits hi := by
  obtain ⟨b, off, ⟨lo, hi⟩, cs, hA, hb, _, hx, _, ⟨c1, c2, rfl, ⟨rfl, g1⟩, ⟨rfl, g2⟩⟩, hc⟩ := h.pick hk
  exact ⟨b, off, lo, hi, hA, hb, hx, hc 0 _ rfl, hc 1 _ rfl, g1, g2⟩
theorem badT_all {L : Nm} : ∀ {l : List Ts}, badT L l = none → ∀ t ∈ l, (numP L t).1 = 0
  | [], _, t, h => by cases h
  | x :: l, hb, t, h => by
    rw [badT] at hb
    by_cases h0 : (numP L x).1 = 0
    · rw [if_pos h0] at hb
      rcases List.mem_cons.1 h with rfl | h
      · exact h0
      · exact badT_all hb t h
    · rw [if_neg h0] at hb; cases hb
theorem badT_pre {L : Nm} {l : List Ts} (h : ∀ t ∈ l, (numP L t).1 = 0) : badT L l = none := by
  induction l with
  | nil => rfl
  | cons x l ih =>
    rw [badT, if_pos (h x (by simp))]
    exact ih fun t ht => h t (by simp [ht])
set_option maxRecDepth 100000 in
set_option maxHeartbeats 8000000 in
theorem rzones_any (L : Nm) (A : Option Addr) (ts : List Ts) (cap : Nat) (hn : ByteArray) (x y : Int) (AH : Option Addr) (lh : List Le) (ch : Nat) (w : World) (B : Nat) (h : Elems tTs w B A ts) (hh : Elems tLe w B AH lh) (hB : B ≤ w.heap.size) (hm1 : lh.length ≤ 10) (hm2 : ∀ l ∈ lh, l.2.2.1.length + l.2.2.2.1.length ≤ 50) (hL : (lvlsN lh, blksN lh) = L) (h1 : L.1.length ≤ 1000000) (h2 : L.2.length ≤ 1000000) (hbad : badT L ts = none) (hl : ts.length ≤ 8) :
    Calls Try.prog 40 #[.slice A ts.length cap, .agg #[.string hn, .int .i64 x, .int .i64 y, .slice AH lh.length ch]] w fun e w' => ∃ A' c, e = .returned (.slice A' (zonesP L ts).length c) ∧ (zonesP L ts).length ≤ c ∧ c ≤ maxLen ∧ Elems tZn w' w'.heap.size A' (zonesP L ts) ∧ Below w.heap.size w w' := by
  have HT := Lib.hid (fun (nm : ByteArray) (op : Int) (nn : ByteArray) (n att : Int) (a : Nat) (m : Int) (hnum : numP L (nm, op, nn, n, att) = (0, a, m)) (X : World) (hX : Below w.heap.size w X) => by
    have h9 := rtest_any nm op nn n att hn x y AH lh ch X B (hh.keep (hX.mono hB) (Nat.le_refl _)) (by have := hX.size; omega) hm1 hm2 L hL h1 h2
    rw [testE_is hnum] at h9
    exact h9)
  have hE : ∀ X, Below w.heap.size w X → Elems tTs X B A ts := fun X hX => h.keep (hX.mono hB) (Nat.le_refl _)
  have HH := Lib.hid (And.intro hE hbad)
  clear h hE hbad hm2 hL hh
  go_enter Try.func40, Try.ntmps40
  go_upto_region 2 with (first
    | (go_at_call 15; refine (rlimits_any _).mono ?_; rintro e w1 ⟨rfl, hb⟩; have Hb1 := Lib.hid hb; clear hb)
    | (refine list_lit1 rfl _ 42 _ rfl (znV limZ) rfl Try.underlying50 (info_zn rfl) (by decide) (by decide) (zero_zn rfl) ?_))
  refine forget (fun X => Below w.heap.size w X ∧ Bk X w.heap.size #[.string hn, .int .i64 x, .int .i64 y, .slice AH lh.length ch] 29 ∧ Elems tZn X X.heap.size (some ⟨w1.heap.size, 0, none⟩) [limZ]) ⟨Below.alloc0 (Below.trans0 (below_self w _) Hb1.out) _, ((Bk.new w _ _).below Hb1.out).alloc _, one_zones (Bk.new _ _ _) limZ_good (by simp)⟩ ?_
  clear Hb1
  generalize w1.heap.size = g0 at *
  rintro W ⟨hw, bh, hE0⟩
  have HW := Lib.hid (And.intro hw (And.intro bh hE0))
  have hws := hw.size
  clear hw bh hE0
  go_wp2_with fail
  go_loopw [5, 6, 7, 8, 9, 10, 11, 12, 13, 14] (fun o i _ _ _ _ _ _ _ _ wr => ∃ (k : Nat) (A5 : Option Addr) (c5 : Nat), k ≤ ts.length ∧ i = .int .i64 k ∧ o = .slice A5 (zonesP L (ts.take k)).length c5 ∧ Elems tZn wr wr.heap.size A5 (zonesP L (ts.take k)) ∧ (zonesP L (ts.take k)).length ≤ c5 ∧ c5 ≤ maxLen ∧ Below W.heap.size W wr) (fun _ i _ _ _ _ _ _ _ _ _ => ts.length - (intOf i).toNat)
  case atStart => exact ⟨0, _, 1, by omega, rfl, rfl, HW.out.2.2, Nat.le_refl _, by simp [maxLen], Below.refl _ _⟩
  case round =>
    obtain ⟨k, A5, c5, hk, rfl, rfl, hE, hc5, hm5, hlow⟩ := hrel
    generalize wr = wA at *
    have hwr := hlow.size
    have bh := HW.out.2.1.below hlow
    by_cases hlt : k < ts.length
    · obtain ⟨b, off, nm, op, nn, n, att, rfl, hb, Hk, g0', g1, g2, g3, g4, gnm, gnn, f1, f2, f3⟩ := pick_ts (HH.out.1 wA (Below.trans0 HW.out.1 hlow)) hlt
      have hkl : (k : Int) < (ts.length : Int) := by omega
      have bw : b < wA.heap.size := by omega
      have hzt := zones_take (L := L) Hk.out
      have h0 := badT_all HH.out.2 _ (List.mem_of_getElem? Hk.out)
      obtain ⟨n1, n2, n3, n4, n5⟩ := num_out h0
      obtain ⟨a, ha⟩ : ∃ a, (numP L (nm, op, nn, n, att)).2.1 = a := ⟨_, rfl⟩
      obtain ⟨m, hm⟩ : ∃ m, (numP L (nm, op, nn, n, att)).2.2 = m := ⟨_, rfl⟩
      have hnum : numP L (nm, op, nn, n, att) = (0, a, m) := by rw [← ha, ← hm, ← h0]
      have hgood := zones_good (L := L) (l := ts) k (badT_pre fun t ht => badT_all HH.out.2 t (List.mem_of_mem_take ht))
      have hlen : (zonesP L (ts.take k)).length ≤ 256 := Nat.le_trans (zones_len k) (Nat.le_trans (Nat.pow_le_pow_right (by decide) (show k ≤ 8 by omega)) (by decide))
      have hlen2 : (zonesP L (ts.take (k + 1))).length ≤ 512 := Nat.le_trans (zones_len (k + 1)) (Nat.le_trans (Nat.pow_le_pow_right (by decide) (show k + 1 ≤ 9 by omega)) (by decide))
      have hnext : zonesP L (ts.take (k + 1)) = (zonesP L (ts.take k)).flatMap fun z => stepZ z a op m := by
        rw [hzt]; unfold nextZ; rw [ha, hm]
      obtain ⟨zs, hzs⟩ : ∃ z, zonesP L (ts.take k) = z := ⟨_, rfl⟩
      rw [ha] at n1
      rw [hm] at n2 n3
      rw [hzs] at hE hc5 hgood hlen hnext ⊢
      have ch := bh.cell
      have lh' := bh.lt
      have hm5' : c5 ≤ 9223372036854775807 := by unfold maxLen at hm5; omega
      have hzl : zs.length ≤ 9223372036854775807 := by omega
      have HO := Lib.hid (And.intro hlow (And.intro (HT.out _ _ _ _ _ a m hnum) (And.intro hE (And.intro hgood (And.intro hnext hlen2)))))
      clear hlow hE hzt h0 ha hm hgood hnext hlen2 hzs hnum bh
      go_wp2_with fail
      refine wp_region_ext wA (by kernel_rfl) (by kernel_rfl) ?_
      repeat (go_big_quiet_step ((go_at_call 39; exact Calls.in_ext (HO.out.2.1 _ (Below.ext0 (Below.trans0 HW.out.1 HO.out.1) _)))))
      refine wpQuiet_nil (fun u => ?_)
      refine forget_then (fun Y => Below wA.heap.size wA Y) (below_ext _ _) ?_
      intro Y0 hY
      have hYz := hY.size
      have HY := Lib.hid (And.intro hY (HO.out.2.2.1.keep hY hYz))
      have q1 := (hY.cell (p := ⟨b, off + k * 5 + 1, none⟩) bw).trans g1
      have bwY : b < Y0.heap.size := by omega
      clear hY ch lh' g0' g1 g2 g3 g4
      go_wp2_with fail
      go_loopw [10, 11, 12, 13, 14] (fun v i _ _ _ wr => ∃ j : Nat, j ≤ zs.length ∧ i = .int .i64 j ∧ OwnL tZn 42 wr Y0.heap.size 0 v ((zs.take j).flatMap fun z => stepZ z a op m) ∧ Below Y0.heap.size Y0 wr) (fun _ i _ _ _ _ => zs.length - (intOf i).toNat)
      case atStart => exact ⟨0, by omega, rfl, OwnL.nil, Below.refl _ _⟩
      case round =>
        obtain ⟨j, hj, rfl, hown, hbw⟩ := hrel
        generalize wr = wB at *
        obtain ⟨A7, c7, rfl, hc7, hm7⟩ := hown.form
        have hm7' : c7 ≤ 9223372036854775807 := by unfold maxLen at hm7; omega
        have hzq := hbw.size
        by_cases hlj : j < zs.length
        · obtain ⟨b9, off9, z, rfl, hb9, Hz, hzm, Hzc⟩ := pick_zn (HY.out.2.keep hbw (Nat.le_refl _)) hlj
          have hgz := HO.out.2.2.2.1 z hzm
          have hz10 := hgz.1
          obtain ⟨fz1, fz2⟩ := hgz.at n1
          have hjl : (j : Int) < (zs.length : Int) := by omega
          have Hst : Hid ((zs.take (j + 1)).flatMap (fun z => stepZ z a op m) = (zs.take j).flatMap (fun z => stepZ z a op m) ++ stepZ z a op m) := Lib.hid (by rw [List.take_add_one, Hz.out, List.flatMap_append]; simp)
          have hql : ((zs.take j).flatMap fun z => stepZ z a op m).length ≤ 512 := by
            refine Nat.le_trans ?_ HO.out.2.2.2.2.2
            rw [HO.out.2.2.2.2.1]
            conv => rhs; rw [← List.take_append_drop j zs]
            rw [List.flatMap_append, List.length_append]
            omega
          obtain ⟨qz, hqz⟩ : ∃ q, (zs.take j).flatMap (fun z => stepZ z a op m) = q := ⟨_, rfl⟩
          rw [hqz] at hown hc7 hql Hst ⊢
          clear hqz
          have e1 : wB.cell? ⟨b, off + k * 5 + 1, none⟩ = some (.int .i64 op) := (hbw.cell (p := ⟨_, _, none⟩) bwY).trans q1
          have bwB : b < wB.heap.size := by omega
          have b9w : b9 < wB.heap.size := by omega
          have cz1 : wB.cell? ⟨b9, off9 + j * 20 + a * 2, none⟩ = some (.int .i64 (atR z a).1) := Hzc.out _ _ (znV_at (by omega)).1
          have cz2 : wB.cell? ⟨b9, off9 + j * 20 + a * 2 + 1, none⟩ = some (.int .i64 (atR z a).2) := Hzc.out _ _ (znV_at (by omega)).2
          have ha10 : (a : Int) < 10 := by omega
          have HB := Lib.hid (And.intro hown hbw)
          have hol := hown.lt
          have Hol := Lib.hid hol
          clear hown hbw hol
          go_upto_region 10 with (fail)
          refine region_planx wB [([0, 1, 2, 3, 4, 5, 6, 7, 8, 9, 10, 11], [12, 13])] (Below.refl _ _) (by kernel_rfl) (by kernel_rfl) (fun u => ?_)
          refine plan_take (fun K9 h9 => ?_)
          simp only [List.map_cons, List.map_nil, pickO, List.getD_cons_zero, List.getD_cons_succ]
          repeat (go_big_quiet_step (fail))
          refine wpQuiet_nil (h9 _ ?_)
          clear h9 K9
          refine plan_run (fun K9 h9 => ?_)
          simp only [pickO, List.getD_cons_zero, List.getD_cons_succ]
          go_wp2_with (go_at_call 47; refine (rwithin_any _ _ op m _ fz1 fz2 n4 n5 ⟨n2, n3⟩).mono ?_; rintro e w9 ⟨A9, c9, rfl, hE9, hF9, hb9'⟩; have H9 := Lib.hid (And.intro hE9 (And.intro hF9 hb9')); clear hE9 hF9 hb9')
          have hb49 : Below wB.heap.size wB w9 := (below_ext wB u).trans (H9.out.2.2.mono (size_ext wB u))
          have Hb49 := Lib.hid hb49
          have hmem : ∃ u', w9 = ext wB u' := by
            obtain ⟨u', hu⟩ := ext_of (W := wB) (w' := w9) hb49
            exact ⟨u', hu.symm⟩
          have Hmem := Lib.hid hmem
          clear hmem hb49
          refine h9 _ _ Hmem.out ?_
          clear h9 K9
          refine plan_run (fun K9 h9 => ?_)
          simp only [pickO, List.getD_cons_zero, List.getD_cons_succ]
          go_wp2_with fail
          refine h9 _ _ Hmem.out ?_
          clear h9 K9
          refine plan_next (plan_end ?_)
          have hstep : stepZ z a op m = (withinP ((atR z a).1, (atR z a).2) op m).map fun r => z.set a r := rfl
          have hcf := cand_fits (r := ((atR z a).1, (atR z a).2)) (op := op) (n := m) ⟨fz1, fz2⟩ ⟨n2, n3⟩
          have hwl := within_len (r := ((atR z a).1, (atR z a).2)) (op := op) (n := m)
          have hrf : ∀ r ∈ withinP ((atR z a).1, (atR z a).2) op m, fits r.1 ∧ fits r.2 := fun r hr => hcf r (List.mem_filter.1 hr).1
          have hE9 := H9.out.1
          have hF9 := H9.out.2.1
          generalize withinP ((atR z a).1, (atR z a).2) op m = rs at *
          rw [hstep] at Hst
          have hF9' : Fresh wB.heap.size A9 := fun g off s h => Nat.le_trans (size_ext wB u) (hF9 g off s h)
          refine forget_then (fun X => OwnL tZn 42 X Y0.heap.size 0 (.slice A7 qz.length c7) qz ∧ Below Y0.heap.size Y0 X ∧ Elems tRg X X.heap.size A9 rs ∧ Fresh wB.heap.size A9) ⟨HB.out.1.below Hb49.out (by omega), HB.out.2.trans (Hb49.out.mono hzq), hE9, hF9'⟩ ?_
          have hrfH := Lib.hid hrf
          clear hstep hcf hE9 hF9 hF9' H9 Hmem Hb49 HB cz1 cz2 e1 hrf
          rintro W4 ⟨hown4, hbw4, hE4, hF4⟩
          have hz4 := hbw4.size
          have H4 := Lib.hid (And.intro hown4 (And.intro hbw4 (And.intro hE4 hF4)))
          clear hown4 hbw4 hE4 hF4
          go_wp2_with fail
          go_loopw [10, 13, 14] (fun v i _ wr => ∃ q : Nat, q ≤ rs.length ∧ i = .int .i64 q ∧ OwnL tZn 42 wr Y0.heap.size 0 v (qz ++ (rs.take q).map fun r => z.set a r) ∧ Below Y0.heap.size Y0 wr ∧ Only (fun g => (Value.slice A7 qz.length c7).ownBlock = some g) W4 wr ∧ (∀ g, v.ownBlock = some g → (Value.slice A7 qz.length c7).ownBlock = some g ∨ W4.heap.size ≤ g)) (fun _ i _ _ => rs.length - (intOf i).toNat)
          case atStart => exact ⟨0, by omega, rfl, by simpa using H4.out.1, H4.out.2.1, Only.refl _ _, fun g hg => .inl hg⟩
          case round =>
            obtain ⟨q, hq, rfl, hown, hbw, hon, hvb⟩ := hrel
            generalize wr = wC at *
            obtain ⟨A8, c8, rfl, hc8, hm8⟩ := hown.form
            have hm8' : c8 ≤ 9223372036854775807 := by unfold maxLen at hm8; omega
            have hzC := hbw.size
            have hz5 := hon.size
            by_cases hlq : q < rs.length
            · have hEr : Elems tRg wC W4.heap.size A9 rs := H4.out.2.2.1.only flat_rg hon (Nat.le_refl _) (fun g off hg hs => by
                have h1 := H4.out.2.2.2 g off _ hg
                have h2 := (Hol.out g hs).2
                omega)
              obtain ⟨rb, ro, lo, hi, rfl, hrb, Hr, r0, r1, fr1, fr2⟩ := pick_rg hEr hlq
              have hql2 : (q : Int) < (rs.length : Int) := by omega
              have rbw : rb < wC.heap.size := by omega
              obtain ⟨b10, off10, z', he9, hb10, Hz', hzm', Hzc'⟩ := pick_zn (HY.out.2.keep hbw (Nat.le_refl _)) hlj
              obtain rfl := Option.some.inj (Hz.out.symm.trans Hz'.out)
              simp only [Option.some.injEq, Addr.mk.injEq, and_true] at he9
              obtain ⟨rfl, rfl⟩ := he9
              have b9c : b9 < wC.heap.size := by omega
              have hqs2 : qz ++ (rs.take (q + 1)).map (fun r => z.set a r) = (qz ++ (rs.take q).map fun r => z.set a r) ++ [z.set a (lo, hi)] := by
                rw [List.take_add_one, Hr.out]; simp
              have hqsl : (qz ++ (rs.take q).map fun r => z.set a r).length ≤ 514 := by
                rw [List.length_append, List.length_map, List.length_take]; omega
              have hg2 : GoodZ (z.set a (lo, hi)) := hgz.set a ⟨fr1, fr2⟩
              obtain ⟨qs, hqs⟩ : ∃ l, qz ++ (rs.take q).map (fun r => z.set a r) = l := ⟨_, rfl⟩
              obtain ⟨z2, hz2⟩ : ∃ l, z.set a (lo, hi) = l := ⟨_, rfl⟩
              rw [hqs] at hown hc8 hqsl hqs2 hvb ⊢
              rw [hz2] at hqs2 hg2
              have HX := Lib.hid (And.intro hown (And.intro hbw (And.intro hon (And.intro hvb (And.intro hqs2 hz2)))))
              clear hown hbw hon hvb hqs2 hqs hEr hz2 Hz' hm8
              go_upto_region 15 with (first
                | (refine list_load_at (o := ⟨some 61, _, _, _, _, _⟩) rfl _ _ rfl b9 (off9 + j * 20) rfl (znV z) _ (fun q u hu => Hzc'.out q u hu) Try.underlying42 rfl (by rw [znV_size hz10]; kernel_rfl) ?_)
                | (refine list_store_fresh (o := ⟨none, .store 42 _ _, _, _, _, _⟩) rfl _ _ _ rfl (znV z) rfl rfl (by rw [znV_size hz10]; kernel_rfl) (by rw [znV_size hz10]; rfl) (one_pairs z) ?_))
              simp only [Act.put]
              refine forget (fun X => Bk X wC.heap.size (znV z) 42 ∧ Below wC.heap.size wC X) ⟨Bk.new _ _ _, below_self _ _⟩ ?_
              rintro W5 ⟨bz, hb5⟩
              have lz := bz.lt
              have fz := bz.free
              have cy1 : W5.cell? ⟨wC.heap.size, a * 2, none⟩ = some (.int .i64 (atR z a).1) := (bz.cell _).trans (znV_at (by omega)).1
              have cy2 : W5.cell? ⟨wC.heap.size, a * 2 + 1, none⟩ = some (.int .i64 (atR z a).2) := (bz.cell _).trans (znV_at (by omega)).2
              have s0 := (hb5.cell (p := ⟨rb, ro + q * 2, none⟩) rbw).trans r0
              have s1 := (hb5.cell (p := ⟨rb, ro + q * 2 + 1, none⟩) rbw).trans r1
              have rb5 : rb < W5.heap.size := by omega
              have H5 := Lib.hid (And.intro bz hb5)
              clear bz hb5 r0 r1
              go_upto_region 16 with (fail)
              have ho : Only (fun g => g = wC.heap.size) W5 ((W5.setCell ⟨wC.heap.size, a * 2, none⟩ (.int .i64 lo)).setCell ⟨wC.heap.size, a * 2 + 1, none⟩ (.int .i64 hi)) := ((Only.refl (fun g => g = wC.heap.size) _).set_ (p := ⟨wC.heap.size, a * 2, none⟩) (.inl rfl) _).set_ (p := ⟨wC.heap.size, a * 2 + 1, none⟩) (.inl rfl) _
              refine forget (fun X => Bk X wC.heap.size (znV z2) 42 ∧ Below wC.heap.size wC X) ⟨?_, H5.out.2.trans (ho.to_below (fun g hg => by omega) (by omega))⟩ ?_
              · have h9 := (H5.out.1.set_ (a * 2) (.int .i64 lo)).set_ (a * 2 + 1) (.int .i64 hi)
                rw [znV_set (z := z) (k := a) (by omega) (lo, hi), HX.out.2.2.2.2.2] at h9
                exact h9
              clear ho H5 cy1 cy2 s0 s1 rb5 lz fz
              rintro W6 ⟨bz, hb6⟩
              have hz6 := hb6.size
              have lz := bz.lt
              have H6 := Lib.hid (And.intro bz hb6)
              clear bz hb6
              go_wp2_with (first
                | (refine list_load_at (o := ⟨some 69, _, _, _, _, _⟩) rfl _ _ rfl wC.heap.size 0 rfl (znV z2) _ (fun j u h => by rw [Nat.zero_add, H6.out.1.cell]; exact h) Try.underlying42 rfl (by rw [znV_size hg2.1]; kernel_rfl) ?_)
                | (refine list_lit1 rfl _ 42 _ rfl (znV z2) rfl Try.underlying50 (info_zn hg2.1) (by rw [znV_size hg2.1]; decide) (by rw [znV_size hg2.1]; decide) (zero_zn hg2.1) ?_)
                | (at_builtin; refine list_appendL (T := tZn) (base := Y0.heap.size) (B := 0) (qs := qs) (v := .slice A8 qs.length c8) rfl _ _ _ rfl 160 Try.underlying50 (by kernel_rfl) (by decide) one_zn rfl ((HX.out.1.below H6.out.2 (by omega)).below (below_self _ _) (by omega)) (some ⟨W6.heap.size, 0, none⟩) 1 1 [z2] [pairsV z2] rfl rfl rfl (fun i a1 a2 => by obtain rfl : i = 0 := (by simp at a1; omega); exact zn_rd _ _ hg2.1 hg2.2) (by have := lies_bk (Bk.new W6 (znV z2) 42) 1; simpa [znV] using this) (by unfold maxLen; omega) (by omega) (by simp; omega) (by omega) ?_; intro A10 c10 w8 hown8 hbel8 hg8 hd8; have H8 := Lib.hid (And.intro hown8 (And.intro hbel8 (And.intro hg8 hd8))); clear hown8 hbel8 hg8 hd8))
              go_roundw
              case rel =>
                have ho6 : Only (fun g => (Value.slice A8 qs.length c8).ownBlock = some g) wC w8 := ((Only.of_below (S := fun g => (Value.slice A8 qs.length c8).ownBlock = some g) H6.out.2).alloc _).grown H8.out.2.2.1 (fun g hg => .inl hg)
                refine ⟨q + 1, by omega, by go_num, by rw [HX.out.2.2.2.2.1]; exact H8.out.1, HX.out.2.1.trans ((H6.out.2.mono hzC).trans (((below_self W6 _).mono (by omega)).trans H8.out.2.1)), HX.out.2.2.1.trans' ho6 HX.out.2.2.2.1, fun g hg => ?_⟩
                rw [own_map] at hg
                rcases H8.out.2.2.2 with h | h
                · exact HX.out.2.2.2.1 g (h.symm.trans hg)
                · right
                  rw [hg] at h
                  simp at h
                  omega
              case measure => simp [intOf]; omega
            · obtain rfl : q = rs.length := by omega
              rw [List.take_length] at hown hc8 ⊢
              obtain ⟨qs, hqs⟩ : ∃ l, qz ++ rs.map (fun r => z.set a r) = l := ⟨_, rfl⟩
              rw [hqs] at hown hc8 Hst ⊢
              have HX := Lib.hid (And.intro hown hbw)
              clear hqs hown hbw hon hvb
              go_wp2_with fail
              go_roundw
              case rel => exact ⟨j + 1, by omega, by go_num, by rw [Hst.out]; exact HX.out.1, HX.out.2⟩
              case measure => simp [intOf]; omega
        · obtain rfl : j = zs.length := by omega
          rw [List.take_length] at hown hc7 ⊢
          rw [← HO.out.2.2.2.2.1] at hown hc7 ⊢
          have HX := Lib.hid (And.intro hown (And.intro hc7 (And.intro hm7 hbw)))
          clear hown hc7 hm7 hbw
          go_wp2_with fail
          go_roundw
          case rel => exact ⟨k + 1, A7, c7, by omega, by go_num, rfl, HX.out.1.elems (by omega) (Nat.le_refl _), HX.out.2.1, HX.out.2.2.1, HO.out.1.trans ((HY.out.1.mono hwr).trans (HX.out.2.2.2.mono (by omega)))⟩
          case measure => simp [intOf]; omega
    · obtain rfl : k = ts.length := by omega
      rw [List.take_length] at hE hc5 ⊢
      have HO := Lib.hid (And.intro hlow (And.intro hE (And.intro hc5 hm5)))
      clear hlow hE hc5 hm5 bh
      go_wp2_with fail
      go_ret
      exact ⟨A5, c5, rfl, HO.out.2.2.1, HO.out.2.2.2, HO.out.2.1, Below.trans0 HW.out.1 HO.out.1⟩
end Go.Proofs.Ytecjhniomjmocaa
