/- Layer 12 (resolve), the reference: Compile. -/
import Derived.Test.YtecjhniomjmocaaResRi
import Derived.Test.YtecjhniomjmocaaResO
namespace Go.Proofs.Ytecjhniomjmocaa
open Go.RowKit Go.ChangeAt
set_option linter.unusedVariables false
set_option linter.unusedSimpArgs false
attribute [local go_sem] ext_cell ext_frozen lt_ext ext_drew

/-- The reference's rule of an item, in one form. -/
theorem item_out {w w' : World} {L : Nm} {tw : Bool} {kd n rn rd sn sd att : Int} {nm : ByteArray} {ws : List (List Ts)} {e : Ending} (h : ItemR w L tw (kd, nm, ws, n, (rn, rd), (sn, sd), att) e w') (hn : nm.size ≤ maxLen) (f1 : fits kd) (f2 : fits n) (f3 : fits rn) (f4 : fits rd) (f5 : fits sn) (f6 : fits sd) :
    ∃ rc q ot, e = .returned (.tuple #[.agg rc, .agg #[.int .i64 (faultI L tw (kd, nm, ws, n, (rn, rd), (sn, sd), att)).1, .int .i64 att, .int .i64 ot]]) ∧ RlAt w' rc.toList q ∧ rc.size = 8 ∧ rc.all (·.oneCell') = true ∧
      q = (if (faultI L tw (kd, nm, ws, n, (rn, rd), (sn, sd), att)).1 = 0 then ruleI L (kd, nm, ws, n, (rn, rd), (sn, sd), att) else zeroRl) ∧ Below w.heap.size w w' ∧ ((faultI L tw (kd, nm, ws, n, (rn, rd), (sn, sd), att)).1 ≠ 0 → ot = (faultI L tw (kd, nm, ws, n, (rn, rd), (sn, sd), att)).2) := by
  obtain ⟨hb, h⟩ := h
  by_cases h0 : (faultI L tw (kd, nm, ws, n, (rn, rd), (sn, sd), att)).1 = 0
  · rw [if_pos h0] at h
    rw [if_pos h0]
    obtain ⟨A, c, rfl, hz⟩ := h
    rw [h0]
    exact ⟨_, _, _, rfl, ⟨A, c, rfl, hz, hn, f1, f2, f3, f4, f5, f6⟩, rfl, one_rl _ _ _ _, rfl, hb, fun h => absurd rfl h⟩
  · rw [if_neg h0] at h
    rw [if_neg h0]
    subst h
    exact ⟨zeroC, zeroRl, _, rfl, ⟨none, 0, rfl, OwnL.nil, by unfold maxLen; decide, by simp [zeroRl, fits], by simp [zeroRl, fits], by simp [zeroRl, fits], by simp [zeroRl, fits], by simp [zeroRl, fits], by simp [zeroRl, fits]⟩, rfl, by kernel_rfl, rfl, hb, fun _ => rfl⟩

set_option maxRecDepth 100000 in
set_option maxHeartbeats 4000000 in
theorem rcompile_any (A : Option Addr) (ls : List It) (cap : Nat) (hn : ByteArray) (x y : Int) (AH : Option Addr) (lh : List Le) (ch : Nat) (w : World) (B : Nat) (h : Elems tIt w B A ls) (hh : Elems tLe w B AH lh) (hB : B ≤ w.heap.size) (hl : ls.length ≤ 210)
    (h12 : ∀ x ∈ ls, x.2.2.1.length ≤ 12 ∧ ∀ l ∈ x.2.2.1, l.length ≤ 8) (hm1 : lh.length ≤ 10) (hm2 : ∀ l ∈ lh, l.2.2.1.length + l.2.2.2.1.length ≤ 50) (L : Nm) (hL : (lvlsN lh, blksN lh) = L) :
    Calls Try.prog 13 #[.agg #[.slice A ls.length cap], .agg #[.string hn, .int .i64 x, .int .i64 y, .slice AH lh.length ch]] w (CompR w L ls) := by
  have hL1 : L.1.length ≤ 1000000 := by rw [← hL]; simp [lvlsN]; omega
  have hL2 : L.2.length ≤ 1000000 := by
    have h9 := offB_le hm2 lh.length
    unfold offB at h9
    rw [List.take_length] at h9
    rw [← hL]
    show (blksN lh).length ≤ _
    omega
  have HE := Lib.hid h
  have HI := Lib.hid (fun (X : World) (hX : Below w.heap.size w X) (k : Nat) (hk : k < ls.length) (xx : It) (hx : ls[k]? = some xx) =>
    ritem_any L A ls cap k hn x y AH lh ch X B (h.keep (hX.mono hB) (Nat.le_refl _)) (hh.keep (hX.mono hB) (Nat.le_refl _)) (by have := hX.size; omega) hk hl h12 hm1 hm2 hL hL1 hL2 xx hx)
  clear h hh h12 hm2 hL hL1 hL2
  go_enter Try.func13, Try.ntmps13
  go_upto_region 2 with (fail)
  refine forget (fun X => Below w.heap.size w X ∧ Bk X w.heap.size #[.slice A ls.length cap] 24 ∧ Bk X (w.heap.size + 1) #[.string hn, .int .i64 x, .int .i64 y, .slice AH lh.length ch] 29 ∧ Bk X (w.heap.size + 1 + 1) #[.slice none 0 0] 35 ∧ Bk X (w.heap.size + 1 + 1 + 1) #[.slice none 0 0] 35) ⟨by (repeat (first | with_reducible exact Below.refl _ _ | with_reducible assumption | with_reducible refine Below.alloc0 ?_ _ | with_reducible refine Below.ext0 ?_ _ | with_reducible refine Below.drew ?_ | with_reducible refine below_drewN ?_ _ | (with_reducible refine Below.setCell (hp := ?hp) ?_ _; case hp => (first | (simp; done) | (simp; omega))))), (((Bk.new w _ _).alloc _).alloc _).alloc _, ((bk_next w _ _ _).alloc _).alloc _, (bk_new_at _ _ _ _ (by simp)).alloc _, bk_new_at _ _ _ _ (by simp)⟩ ?_
  obtain ⟨w0, hw0⟩ : ∃ n, w.heap.size = n := ⟨_, rfl⟩
  obtain ⟨pb, hpb⟩ : ∃ n, w0 + 1 + 1 + 1 = n := ⟨_, rfl⟩
  rw [hw0, hpb]
  rintro X1 ⟨hX, b0, b1, b2, bp⟩
  have HX := Lib.hid (And.intro hX (And.intro b0 (And.intro b1 (And.intro b2 (And.intro bp (And.intro hw0 hpb))))))
  have c4 : w0 + 1 + 1 < pb := by omega
  have hBp : B ≤ w0 := by omega
  clear hX b0 b1 b2 bp hw0 hpb
  go_wp2_with fail
  go_loopw [7, 8, 9, 10] (fun fv i _ _ wr => ∃ (k : Nat) (v : Value), k ≤ ls.length ∧ k ≤ 200 ∧ i = .int .i64 k ∧ Below pb X1 wr ∧ Bk wr pb #[v] 35 ∧ OwnR wr (pb + 1) v (rulesTo L ls k) ∧ OwnL tFa 81 wr (pb + 1) 0 fv (faultsTo L ls k)) (fun _ i _ _ _ => ls.length - (intOf i).toNat)
  case atStart => exact ⟨0, _, by omega, by omega, rfl, Below.refl _ _, HX.out.2.2.2.2.1, OwnR.nil, OwnL.nil⟩
  case round =>
    obtain ⟨k, v, hk, hk2, rfl, hw, bp, hr, hf⟩ := hrel
    have hwr := hw.size
    have hpl := bp.lt
    obtain ⟨Af, cf, rfl, hcf, hmf⟩ := hf.form
    have hmf' : cf ≤ 9223372036854775807 := by unfold maxLen at hmf; omega
    have hfl := faultsTo_len (L := L) hk
    have hX1 := HX.out.1.size
    have hWW : Below w0 w wr := HX.out.1.trans (hw.mono (by omega))
    have c2 : wr.cell? ⟨w0, 0, none⟩ = some (.slice A ls.length cap) := (HX.out.2.1.below' hw (by omega)).cell 0
    have l2 : w0 < wr.heap.size := by omega
    have b1 := HX.out.2.2.1.below' hw (by omega)
    have c3 := b1.cell
    have l3 := b1.lt
    by_cases hlt : k < ls.length
    · obtain ⟨b, off, kd, nm, AW, ws, cw, n, rn, rd, sn, sd, att, rfl, hb, Hk, d0, d1, d2, d3, d4, d5, d6, d7, d8, g1, g2, g3, f1, f2, f3, f4, f5, f6, f7, g4⟩ := pick_it (HE.out.keep (hWW.mono (show B ≤ w0 by omega)) (Nat.le_refl _)) hlt
      have hkl : (k : Int) < (ls.length : Int) := by omega
      have bw : b < wr.heap.size := by omega
      have HO := Lib.hid (And.intro hw (And.intro bp (And.intro hr hf)))
      have HWW := Lib.hid hWW
      clear hw bp hr hf hWW b1
      by_cases h200 : k = 200
      · have hq200 : ((k : Int) == 200) = true := by simpa using (show (k : Int) = 200 by omega)
        have H200 := Lib.hid h200
        clear h200
        have hlast : Hid (faultsP L ls = faultsTo L ls k ++ [(3, att, -1)]) := Lib.hid (by
          have hk200 := H200.out
          subst hk200
          unfold faultsP
          rw [Nat.min_eq_right (by omega), Hk.out])
        have hnl : 0 < ((faultsTo L ls k).length : Int) + 1 := by omega
        clear g3 g4 Hk c3 l3
        as_aux_lemma =>
        go_wp2_with (at_builtin; refine list_appendL (T := tFa) (base := pb + 1) (B := 0) (qs := faultsTo L ls k) (v := .slice Af (faultsTo L ls k).length cf) rfl _ _ _ rfl 24 Try.underlying36 (by kernel_rfl) (by decide) one_fa rfl (HO.out.2.2.2.below (show Below wr.heap.size wr _ by (repeat (first | with_reducible exact Below.refl _ _ | with_reducible assumption | with_reducible refine Below.alloc0 ?_ _ | with_reducible refine Below.ext0 ?_ _ | with_reducible refine Below.drew ?_ | with_reducible refine below_drewN ?_ _ | (with_reducible refine Below.setCell (hp := ?hp) ?_ _; case hp => (first | (simp; done) | (simp; omega)))))) (by omega)) (some ⟨wr.heap.size, 0, none⟩) 1 1 [(3, att, -1)] [[.int .i64 3, .int .i64 att, .int .i64 (-1)]] rfl rfl rfl (fun i a1 a2 => by obtain rfl : i = 0 := (by simp at a1; omega); exact fa_rd _ _ (by unfold fits; omega) f7 (by unfold fits; omega)) (by have := lies_bk (Bk.new wr #[.int .i64 3, .int .i64 att, .int .i64 (-1)] 81) 1; simpa using this) (by unfold maxLen; omega) (by omega) (by simp; omega) (by omega) ?_; intro A8 c8 w8 hown8 hbel8 hg8 hd8; have H8 := Lib.hid (And.intro hown8 hbel8); clear hown8 hbel8 hg8 hd8; have Hb8 := Lib.hid (HO.out.1.trans (((show Below wr.heap.size wr _ by (repeat (first | with_reducible exact Below.refl _ _ | with_reducible assumption | with_reducible refine Below.alloc0 ?_ _ | with_reducible refine Below.ext0 ?_ _ | with_reducible refine Below.drew ?_ | with_reducible refine below_drewN ?_ _ | (with_reducible refine Below.setCell (hp := ?hp) ?_ _; case hp => (first | (simp; done) | (simp; omega)))))).mono (show pb ≤ wr.heap.size by omega)).trans (H8.out.2.mono (show pb ≤ pb + 1 by omega)))); have Hq8 := Lib.hid (HX.out.2.2.2.1.below' Hb8.out c4); have c4 := Hq8.out.cell 0; have q4 := Hq8.out.free 0; have l4 := Hq8.out.lt)
        refine bodyPost_ret (v := .tuple #[.agg #[.slice none 0 0], .slice A8 ((faultsTo L ls k).length + 1) c8]) (by simp [results, Try.results13, go_sem, l4, c4]) rfl (comp_bad hlast.out (by simp) (by simp) ?_ ?_)
        · rw [HX.out.2.2.2.2.2.1]
          exact (HX.out.1.trans (Hb8.out.mono (by omega))).setCell (by simp; omega) _
        · exact (H8.out.1.only ((Only.refl (fun g => g = w0 + 1 + 1) w8).set_ (p := ⟨w0 + 1 + 1, 0, none⟩) (.inl rfl) _) (fun g hg => by omega) (by omega) (fun g hg => by have := (H8.out.1.lt g hg).1; omega)).elems (Nat.zero_le _) (Nat.le_refl _)
      · have hq200 : ((k : Int) == 200) = false := by simpa using (show ¬ (k : Int) = 200 by omega)
        have hk3 : k < 200 := by omega
        clear h200 hk2
        obtain ⟨tw, htw⟩ : ∃ tw, twiceP ls k (kd, nm, ws, n, (rn, rd), (sn, sd), att) = tw := ⟨_, rfl⟩
        have hst := rulesTo_step (L := L) Hk.out
        have hft := faultsTo_step (L := L) Hk.out
        have hit := HI.out wr (by rw [HX.out.2.2.2.2.2.1]; exact HWW.out) k hlt _ Hk.out
        rw [htw] at hst hft hit
        have hff := fault_fits (L := L) (tw := tw) (x := (kd, nm, ws, n, (rn, rd), (sn, sd), att)) (fun l hl t ht => (tests_fit g3.out l hl t ht).2.2)
        have HT := Lib.hid (And.intro hst (And.intro hft hit))
        obtain ⟨er, her⟩ : ∃ e, (faultI L tw (kd, nm, ws, n, (rn, rd), (sn, sd), att)).1 = e := ⟨_, rfl⟩
        obtain ⟨ot, hot⟩ : ∃ e, (faultI L tw (kd, nm, ws, n, (rn, rd), (sn, sd), att)).2 = e := ⟨_, rfl⟩
        rw [her, hot] at hff
        obtain ⟨fe, fo⟩ := hff
        have HP := Lib.hid (And.intro her hot)
        clear hst hft hit htw her hot g3 g4 d0 d1 d2 d3 d4 d5 d6 d7 d8 hb bw hmf
        go_upto_region 9 with (first
          | (go_at_call 30; refine HT.out.2.2.mono ?_; rintro e w3 hR; obtain ⟨rc, q, o3, he, hq1, hq2, hq3, hq4, hb3, ho3⟩ := item_out hR (by unfold maxLen; omega) f1 f2 f3 f4 f5 f6; rw [HP.out.1] at he hq4 ho3; rw [HP.out.2] at ho3; subst he; have H3 := Lib.hid (And.intro hq1 (And.intro hq2 (And.intro hq3 (And.intro hq4 (And.intro hb3 ho3))))); clear hR hq1 hq2 hq3 hq4 hb3 ho3)
          | (refine list_store_bk (o := ⟨none, .store 54 _ _, _, _, _, _⟩) rfl _ _ _ rfl w3.heap.size rc rfl rfl ((Bk.new w3 zeroC 54).alloc _) (by rw [H3.out.2.1]; kernel_rfl) (by rw [H3.out.2.1]; rfl) H3.out.2.2.1 ?_; intro X7 hb7 ho7; have H7 := Lib.hid (And.intro hb7 ho7); clear hb7 ho7)
          | (refine list_store_bk (o := ⟨none, .store 81 _ _, _, _, _, _⟩) rfl _ _ _ rfl (w3.heap.size + 1) #[.int .i64 er, .int .i64 att, .int .i64 o3] rfl rfl ((bk_next w3 (.cells zeroC 54) #[.int .i64 0, .int .i64 0, .int .i64 0] 81).only H7.out.2 (by simp)) (by kernel_rfl) rfl (by kernel_rfl) ?_; intro X8 hb8 ho8; have H8 := Lib.hid (And.intro hb8 ho8); clear hb8 ho8))
        simp only [Act.put]
        have hb7 : Below w3.heap.size w3 X8 := ((show Below w3.heap.size w3 _ by (repeat (first | with_reducible exact Below.refl _ _ | with_reducible assumption | with_reducible refine Below.alloc0 ?_ _ | with_reducible refine Below.ext0 ?_ _ | with_reducible refine Below.drew ?_ | with_reducible refine below_drewN ?_ _ | (with_reducible refine Below.setCell (hp := ?hp) ?_ _; case hp => (first | (simp; done) | (simp; omega)))))).trans (H7.out.2.to_below (B := w3.heap.size) (fun g hg => by omega) (by simp; omega))).trans (H8.out.2.to_below (B := w3.heap.size) (fun g hg => by omega) (by have := H7.out.2.size; simp at this; omega))
        have hb8 : Below wr.heap.size wr X8 := H3.out.2.2.2.2.1.trans (hb7.mono H3.out.2.2.2.2.1.size)
        have HQ := Lib.hid (And.intro H3.out.2.2.2.1 H3.out.2.2.2.2.2)
        have H8s := Lib.hid H3.out.2.1
        have hw3 := H3.out.2.2.2.2.1.size
        have hXz' : pb ≤ wr.heap.size := by omega
        refine forget (fun Y => Below pb X1 Y ∧ Bk Y pb #[v] 35 ∧ OwnR Y (pb + 1) v (rulesTo L ls k) ∧ OwnL tFa 81 Y (pb + 1) 0 (.slice Af (faultsTo L ls k).length cf) (faultsTo L ls k) ∧ Bk Y w3.heap.size rc 54 ∧ Bk Y (w3.heap.size + 1) #[.int .i64 er, .int .i64 att, .int .i64 o3] 81 ∧ RlAt Y rc.toList q) ⟨HO.out.1.trans (hb8.mono hXz'), HO.out.2.1.below hb8, HO.out.2.2.1.below hb8, HO.out.2.2.2.below hb8 (by omega), H7.out.1.only H8.out.2 (by omega), H8.out.1, H3.out.1.only (S := fun _ => False) (Only.of_below hb7) (fun g hg => hg.elim)⟩ ?_
        clear H7 H8 H3 hb7 hb8 HO c2 l2 c3 l3
        have hfb := hw3
        generalize w3.heap.size = rb at *
        rintro Y ⟨hY, bp, hr, hf, br, bq, hq⟩
        have cb0 : Y.cell? ⟨rb + 1, 0, none⟩ = some (.int .i64 er) := bq.cell 0
        have lb0 := bq.lt
        by_cases he0 : er = 0
        · have hfe : Hid (faultsTo L ls (k + 1) = faultsTo L ls k) := Lib.hid (by rw [HT.out.2.1, HP.out.1, if_pos he0, List.append_nil])
          subst he0
          clear bq
          as_aux_lemma =>
          obtain ⟨Ar, cr, rfl, hcr, hmr⟩ := hr.form
          have hmr' : cr ≤ 9223372036854775807 := by unfold maxLen at hmr; omega
          have hrl : (rulesTo L ls k).length ≤ 1000 := by rw [rulesTo_len hk]; omega
          have cp0 : Y.cell? ⟨pb, 0, none⟩ = some (.slice Ar (rulesTo L ls k).length cr) := bp.cell 0
          have fp0 := bp.free 0
          have lp0 := bp.lt
          have hYz := hY.size
          have lr0 := br.lt
          have hro := fun g hg => (hr.lt g hg)
          have HY := Lib.hid (And.intro hY (And.intro bp (And.intro hr (And.intro hf (And.intro br hq)))))
          clear hY bp hr hf br hq
          go_wp2_with (first
            | (refine list_load_at (o := ⟨some 47, _, _, _, _, _⟩) rfl _ _ rfl rb 0 rfl rc _ (fun j u h => by rw [Nat.zero_add, HY.out.2.2.2.2.1.cell]; exact h) Try.underlying54 rfl (by rw [H8s.out]; kernel_rfl) ?_)
            | (refine list_lit1 (o := ⟨some 48, _, _, _, _, _⟩) rfl _ 54 _ rfl rc rfl Try.underlying33 (by rw [H8s.out]; kernel_rfl) (by rw [H8s.out]; decide) (by rw [H8s.out]; decide) (by rw [H8s.out]; kernel_rfl) ?_)
            | (at_builtin; refine list_appendR (base := pb + 1) (v := .slice Ar (rulesTo L ls k).length cr) (qs := rulesTo L ls k) rfl _ _ rfl rfl (HY.out.2.2.1.below (below_self _ _)) (some ⟨Y.heap.size, 0, none⟩) 1 rc.toList q rfl (lies_bk (Bk.new Y rc 54) 1) (HY.out.2.2.2.2.2.only (Only.of_below (S := fun _ => False) (below_self _ _)) (fun g hg => hg.elim)) (by omega) (by simp; omega) ?_; intro A5 c5 w5 hr5 hb5 ho5; have H5 := Lib.hid (And.intro hr5 (And.intro hb5 ho5)); clear hr5 hb5 ho5; have hS5 : Only (fun g => (Value.slice Ar (rulesTo L ls k).length cr).ownBlock = some g) Y w5 := Only.trans2 (S' := fun g => (Value.slice Ar (rulesTo L ls k).length cr).ownBlock = some g) (Only.of_below (below_self Y (.cells rc 54))) H5.out.2.2 (fun g hg => .inl hg); have hq5 := HY.out.2.1.only hS5 (fun h => by have := (hro pb h).1; omega); have cq5 : w5.cell? ⟨pb, 0, none⟩ = some (.slice Ar (rulesTo L ls k).length cr) := hq5.cell 0; have fq5 := hq5.free 0; have lq5 := hq5.lt; have HS5 := Lib.hid (And.intro hS5 hq5); clear hS5 hq5))
          go_roundw
          case rel =>
            have hs6 : Only (fun g => g = pb) w5 (w5.setCell ⟨pb, 0, none⟩ (.slice A5 ((rulesTo L ls k).length + 1) c5)) := (Only.refl (fun g => g = pb) w5).set_ (p := ⟨pb, 0, none⟩) (.inl rfl) _
            have hfr : ∀ g, (Value.slice Af (faultsTo L ls k).length cf).ownBlock = some g → ¬ (Value.slice Ar (rulesTo L ls k).length cr).ownBlock = some g := fun g h1 h2 => by
              obtain ⟨C1, k1⟩ := ownL_typed HY.out.2.2.2.1 h1
              obtain ⟨C2, k2⟩ := HY.out.2.2.1.typed h2
              exact bk_ne k1 k2 (by decide) rfl
            have hf5 := HY.out.2.2.2.1.only HS5.out.1 (fun g hg => Nat.zero_le _) (Nat.zero_le _) hfr
            refine ⟨k + 1, .slice A5 ((rulesTo L ls k).length + 1) c5, by omega, by omega, by go_num, ?_, ?_, ?_, ?_⟩
            · exact ((HY.out.1.trans (HS5.out.1.to_below (B := pb) (fun g hg => by have := (hro g hg).1; omega) (by omega))).trans (hs6.to_below (B := pb) (fun g hg => by omega) (by omega)))
            · exact HS5.out.2.set_ 0 _
            · rw [HT.out.1, HP.out.1, ← HQ.out.1]
              exact H5.out.1.only hs6 (fun g hg => by subst hg; exact ⟨_, _, HS5.out.2, by decide⟩) (fun g hg h => by have := (H5.out.1.lt g hg).1; omega)
            · have e9 : faultsTo L ls (k + 1) = faultsTo L ls k := hfe.out
              rw [e9]
              exact hf5.only hs6 (fun g hg => Nat.zero_le _) (Nat.zero_le _) (fun g hg h => by have := (hf5.lt g hg).1; omega)
          case measure => simp [intOf]; omega
        · obtain rfl := HQ.out.2 he0
          have hfe : Hid (faultsTo L ls (k + 1) = faultsTo L ls k ++ [(er, att, o3)]) := Lib.hid (by rw [HT.out.2.1, HP.out.1, HP.out.2, if_neg he0])
          have hb1 : (er == 0) = false := by simpa using he0
          have hb2 : (er != 0) = true := by simpa using he0
          have cb1 : Y.cell? ⟨rb + 1, 1, none⟩ = some (.int .i64 att) := bq.cell 1
          have cb2 : Y.cell? ⟨rb + 1, 2, none⟩ = some (.int .i64 o3) := bq.cell 2
          have hYz2 : pb + 1 ≤ Y.heap.size := by have := bp.lt; omega
          have HZ := Lib.hid (And.intro hY (And.intro bp (And.intro hr (And.intro hf (And.intro br hq)))))
          clear hY bp hr hf br hq bq
          as_aux_lemma =>
          go_upto_region 11 with (at_builtin; refine list_appendL (T := tFa) (base := pb + 1) (B := 0) (qs := faultsTo L ls k) (v := .slice Af (faultsTo L ls k).length cf) rfl _ _ _ rfl 24 Try.underlying36 (by kernel_rfl) (by decide) one_fa rfl (HZ.out.2.2.2.1.below (below_self _ _) (Nat.zero_le _)) (some ⟨Y.heap.size, 0, none⟩) 1 1 [(er, att, o3)] [[.int .i64 er, .int .i64 att, .int .i64 o3]] rfl rfl rfl (fun i a1 a2 => by obtain rfl : i = 0 := (by simp at a1; omega); exact fa_rd _ _ fe f7 fo) (by have := lies_bk (Bk.new Y #[.int .i64 er, .int .i64 att, .int .i64 o3] 81) 1; simpa using this) (by unfold maxLen; omega) (by omega) (by simp; omega) (by omega) ?_; intro A8 c8 w8 hown8 hbel8 hg8 hd8; have H8 := Lib.hid (And.intro hown8 hg8); clear hown8 hbel8 hg8 hd8)
          have hS8 : Only (fun g => (Value.slice Af (faultsTo L ls k).length cf).ownBlock = some g) Y w8 := ((Only.refl _ Y).alloc _).grown H8.out.2 (fun g e => .inl e)
          have hty : ∀ g, (Value.slice Af (faultsTo L ls k).length cf).ownBlock = some g → ∃ C t, Bk Y g C t ∧ t ≠ 42 := fun g hg => by
            obtain ⟨C, hC⟩ := ownL_typed HZ.out.2.2.2.1 hg
            exact ⟨C, _, hC, by decide⟩
          have hnb : ∀ {g : Nat} {C : Array Value} {t : TypeId}, Bk Y g C t → t ≠ 81 → ¬ (Value.slice Af (faultsTo L ls k).length cf).ownBlock = some g := fun hb hne h => by
            obtain ⟨C, hC⟩ := ownL_typed HZ.out.2.2.2.1 h
            exact bk_ne hb hC hne rfl
          have hbl : Below pb X1 w8 := HZ.out.1.trans (hS8.to_below (B := pb) (fun g hg => by have := (HZ.out.2.2.2.1.lt g hg).1; omega) (by omega))
          refine forget (fun Y2 => Below pb X1 Y2 ∧ Bk Y2 pb #[v] 35 ∧ OwnR Y2 (pb + 1) v (rulesTo L ls k) ∧ OwnL tFa 81 Y2 (pb + 1) 0 (.slice A8 ((faultsTo L ls k).length + 1) c8) (faultsTo L ls k ++ [(er, att, o3)]) ∧ Bk Y2 rb rc 54 ∧ RlAt Y2 rc.toList q) ⟨hbl, HZ.out.2.1.only hS8 (hnb HZ.out.2.1 (by decide)), HZ.out.2.2.1.only hS8 hty (fun g hg => by
            obtain ⟨C, hC⟩ := HZ.out.2.2.1.typed hg
            exact hnb hC (by decide)), H8.out.1, HZ.out.2.2.2.2.1.only hS8 (hnb HZ.out.2.2.2.2.1 (by decide)), HZ.out.2.2.2.2.2.only hS8 hty⟩ ?_
          clear HZ H8 hS8 hty hnb hbl cb0 cb1 cb2 lb0 hb1 hb2 hYz2
          rintro Y2 ⟨hY, bp, hr, hf, br, hq⟩
          obtain ⟨Ar, cr, rfl, hcr, hmr⟩ := hr.form
          have hmr' : cr ≤ 9223372036854775807 := by unfold maxLen at hmr; omega
          have hrl : (rulesTo L ls k).length ≤ 1000 := by rw [rulesTo_len hk]; omega
          have cp0 : Y2.cell? ⟨pb, 0, none⟩ = some (.slice Ar (rulesTo L ls k).length cr) := bp.cell 0
          have fp0 := bp.free 0
          have lp0 := bp.lt
          have hYz := hY.size
          have lr0 := br.lt
          have hro := fun g hg => (hr.lt g hg)
          have HY := Lib.hid (And.intro hY (And.intro bp (And.intro hr (And.intro hf (And.intro br hq)))))
          clear hY bp hr hf br hq
          go_wp2_with (first
            | (refine list_load_at (o := ⟨some 47, _, _, _, _, _⟩) rfl _ _ rfl rb 0 rfl rc _ (fun j u h => by rw [Nat.zero_add, HY.out.2.2.2.2.1.cell]; exact h) Try.underlying54 rfl (by rw [H8s.out]; kernel_rfl) ?_)
            | (refine list_lit1 (o := ⟨some 48, _, _, _, _, _⟩) rfl _ 54 _ rfl rc rfl Try.underlying33 (by rw [H8s.out]; kernel_rfl) (by rw [H8s.out]; decide) (by rw [H8s.out]; decide) (by rw [H8s.out]; kernel_rfl) ?_)
            | (at_builtin; refine list_appendR (base := pb + 1) (v := .slice Ar (rulesTo L ls k).length cr) (qs := rulesTo L ls k) rfl _ _ rfl rfl (HY.out.2.2.1.below (below_self _ _)) (some ⟨Y2.heap.size, 0, none⟩) 1 rc.toList q rfl (lies_bk (Bk.new Y2 rc 54) 1) (HY.out.2.2.2.2.2.only (Only.of_below (S := fun _ => False) (below_self _ _)) (fun g hg => hg.elim)) (by omega) (by simp; omega) ?_; intro A5 c5 w5 hr5 hb5 ho5; have H5 := Lib.hid (And.intro hr5 (And.intro hb5 ho5)); clear hr5 hb5 ho5; have hS5 : Only (fun g => (Value.slice Ar (rulesTo L ls k).length cr).ownBlock = some g) Y2 w5 := Only.trans2 (S' := fun g => (Value.slice Ar (rulesTo L ls k).length cr).ownBlock = some g) (Only.of_below (below_self Y2 (.cells rc 54))) H5.out.2.2 (fun g hg => .inl hg); have hq5 := HY.out.2.1.only hS5 (fun h => by have := (hro pb h).1; omega); have cq5 : w5.cell? ⟨pb, 0, none⟩ = some (.slice Ar (rulesTo L ls k).length cr) := hq5.cell 0; have fq5 := hq5.free 0; have lq5 := hq5.lt; have HS5 := Lib.hid (And.intro hS5 hq5); clear hS5 hq5))
          go_roundw
          case rel =>
            have hs6 : Only (fun g => g = pb) w5 (w5.setCell ⟨pb, 0, none⟩ (.slice A5 ((rulesTo L ls k).length + 1) c5)) := (Only.refl (fun g => g = pb) w5).set_ (p := ⟨pb, 0, none⟩) (.inl rfl) _
            have hfr : ∀ g, (Value.slice A8 ((faultsTo L ls k).length + 1) c8).ownBlock = some g → ¬ (Value.slice Ar (rulesTo L ls k).length cr).ownBlock = some g := fun g h1 h2 => by
              obtain ⟨C1, k1⟩ := ownL_typed HY.out.2.2.2.1 h1
              obtain ⟨C2, k2⟩ := HY.out.2.2.1.typed h2
              exact bk_ne k1 k2 (by decide) rfl
            have hf5 := HY.out.2.2.2.1.only HS5.out.1 (fun g hg => Nat.zero_le _) (Nat.zero_le _) hfr
            refine ⟨k + 1, .slice A5 ((rulesTo L ls k).length + 1) c5, by omega, by omega, by go_num, ?_, ?_, ?_, ?_⟩
            · exact ((HY.out.1.trans (HS5.out.1.to_below (B := pb) (fun g hg => by have := (hro g hg).1; omega) (by omega))).trans (hs6.to_below (B := pb) (fun g hg => by omega) (by omega)))
            · exact HS5.out.2.set_ 0 _
            · rw [HT.out.1, HP.out.1, ← HQ.out.1]
              exact H5.out.1.only hs6 (fun g hg => by subst hg; exact ⟨_, _, HS5.out.2, by decide⟩) (fun g hg h => by have := (H5.out.1.lt g hg).1; omega)
            · have e9 : faultsTo L ls (k + 1) = faultsTo L ls k ++ [(er, att, o3)] := hfe.out
              rw [e9]
              exact hf5.only hs6 (fun g hg => Nat.zero_le _) (Nat.zero_le _) (fun g hg h => by have := (hf5.lt g hg).1; omega)
          case measure => simp [intOf]; omega
    · obtain rfl : k = ls.length := by omega
      have hfp : faultsP L ls = faultsTo L ls ls.length := by
        unfold faultsP
        rw [Nat.min_eq_left hk2, List.getElem?_eq_none (by omega), List.append_nil]
      have Hfp := Lib.hid hfp
      have hq4 := HX.out.2.2.2.1.below' hw c4
      have c4 : wr.cell? ⟨w0 + 1 + 1, 0, none⟩ = some (.slice none 0 0) := hq4.cell 0
      have q4 := hq4.free 0
      have l4 := hq4.lt
      have HQ4 := Lib.hid hq4
      obtain ⟨Ar, cr, rfl, hcr, hmr⟩ := hr.form
      have cp0 : wr.cell? ⟨pb, 0, none⟩ = some (.slice Ar (rulesTo L ls ls.length).length cr) := bp.cell 0
      have HO := Lib.hid (And.intro hw (And.intro bp (And.intro hr hf)))
      clear hfp hq4 hw bp hr hf hcf hmf hmf' hcr hmr hwr b1 c3 l3 hWW
      have hs6 : ∀ u, Only (fun g => g = w0 + 1 + 1) wr (wr.setCell ⟨w0 + 1 + 1, 0, none⟩ u) := fun u => (Only.refl (fun g => g = w0 + 1 + 1) wr).set_ (p := ⟨w0 + 1 + 1, 0, none⟩) (.inl rfl) _
      have Hs6 := Lib.hid hs6
      clear hs6
      by_cases hnil : faultsTo L ls ls.length = []
      · have hl0 : (faultsTo L ls ls.length).length = 0 := by rw [hnil]; rfl
        have Hnil := Lib.hid hnil
        clear hnil
        as_aux_lemma =>
        go_wp2_with fail
        refine bodyPost_ret (v := .tuple #[.agg #[.slice Ar (rulesTo L ls ls.length).length cr], .slice none 0 0]) (by simp [results, Try.results13, go_sem, l4, c4]) rfl (comp_good (Hfp.out.trans Hnil.out) rfl rfl ?_ ?_)
        · rw [HX.out.2.2.2.2.2.1]
          exact (HX.out.1.trans (HO.out.1.mono (by omega))).setCell (by simp; omega) _
        · exact (HO.out.2.2.1.only (Hs6.out _) (fun g hg => by subst hg; exact ⟨_, _, HQ4.out, by decide⟩) (fun g hg => by have := (HO.out.2.2.1.lt g hg).1; omega)).elems
      · have hnl : 0 < ((faultsTo L ls ls.length).length : Int) := by
          have : (faultsTo L ls ls.length).length ≠ 0 := fun h => hnil (List.length_eq_zero_iff.1 h)
          omega
        have Hnil := Lib.hid hnil
        clear hnil cp0
        as_aux_lemma =>
        go_wp2_with fail
        refine bodyPost_ret (v := .tuple #[.agg #[.slice none 0 0], .slice Af (faultsTo L ls ls.length).length cf]) (by simp [results, Try.results13, go_sem, l4, c4]) rfl (comp_bad Hfp.out Hnil.out rfl ?_ ?_)
        · rw [HX.out.2.2.2.2.2.1]
          exact (HX.out.1.trans (HO.out.1.mono (by omega))).setCell (by simp; omega) _
        · exact (HO.out.2.2.2.only (Hs6.out _) (fun g hg => Nat.zero_le _) (Nat.zero_le _) (fun g hg => by have := (HO.out.2.2.2.lt g hg).1; omega)).elems (Nat.zero_le _) (Nat.le_refl _)
end Go.Proofs.Ytecjhniomjmocaa
