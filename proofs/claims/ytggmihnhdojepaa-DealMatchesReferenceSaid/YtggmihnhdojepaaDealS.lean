/- Layer 34 (deal), the reference: Sale. -/
import Derived.Test.YtggmihnhdojepaaDealR
namespace Go.Proofs.Ytggmihnhdojepaa
open Go.RowKit
set_option linter.unusedVariables false
set_option linter.unusedSimpArgs false
attribute [local go_sem] ext_cell ext_frozen lt_ext ext_drew

theorem post_one_len (p : Pst) : (postL [p]).length ≤ 1 := by unfold postL; exact Nat.le_trans (List.length_filter_le _ _) (by simp)
theorem parts_three (a b c : Int) : partsL a b c = postL [((2, noName), a)] ++ (postL [((1, noName), b)] ++ postL [((3, noName), c)]) := by
  unfold partsL postL
  rw [← List.filter_append, ← List.filter_append]
  rfl
theorem Below.ext0' {b : Nat} {a w : World} (h : Below b a w) (u : World) (hb : b ≤ w.heap.size := by omega) : Below b a (ext w u) := h.trans ((below_ext w u).mono hb)
section
variable {A : Option Addr} {ls : List Ln} {cap n : Nat} {total : Int} {A2 : Option Addr} {ms : List Mn} {cap2 n2 : Nat} {pn : ByteArray} {w : World} {B : Nat}
theorem rright_in (h : Elems tLine w B A ls) (hB : B ≤ w.heap.size) (hn : ls.length = n) (hl : n ≤ 60) (ht : fits total) (r : Bool) (h1 : rightB ls total = r) : ∀ X, Below w.heap.size w X → Calls Try.prog 33 #[.agg #[.slice A n cap, .int .i64 total]] X fun e w' => e = .returned (.bool r) ∧ Below X.heap.size X w' := fun X hX => by
  subst hn
  have := right_any A ls cap total X B (h.keep (hX.mono hB) (Nat.le_refl _)) (by have := hX.size; omega) hl ht
  rwa [h1] at this
theorem formed_in (h : Elems tMean w B A2 ms) (hB : B ≤ w.heap.size) (hn : ms.length = n2) (hl : n2 ≤ 9223372036854775807) (tb : Bool) (h2 : totB ms = tb) : ∀ X, Below w.heap.size w X → Calls Try.prog 35 #[.slice A2 n2 cap2] X fun e w' => e = .returned (.bool tb) ∧ Below X.heap.size X w' := fun X hX => by
  have := formed_any A2 ms cap2 n2 X B (h.keep (hX.mono hB) (Nat.le_refl _)) (by have := hX.size; omega) hn hl
  rw [h2] at this
  exact this.mono fun e w' ⟨he, q, hq⟩ => ⟨he, hq ▸ below_drewN (Below.refl _ _) q⟩
theorem rsum_in (h : Elems tMean w B A2 ms) (hB : B ≤ w.heap.size) (hn : ms.length = n2) (hl : n2 ≤ 12) (hok : okM ms = true) (tv : Int) (h2 : sumM ms = tv) : ∀ X, Below w.heap.size w X → Calls Try.prog 36 #[.slice A2 n2 cap2] X fun e w' => e = .returned (.int .i64 tv) ∧ X = w' := fun X hX => by
  have := rsum_any A2 ms cap2 n2 X B (h.keep (hX.mono hB) (Nat.le_refl _)) (by have := hX.size; omega) hn hl hok
  rwa [h2] at this
theorem rof_in (h : Elems tLine w B A ls) (hB : B ≤ w.heap.size) (hn : ls.length = n) (hl : n ≤ 60) (hall : ls.all lineB = true) (q : Int) (hq : q ≠ 0) (a : Int) (h1 : partOf q ls = a) : ∀ X, Below w.heap.size w X → Calls Try.prog 39 #[.agg #[.slice A n cap, .int .i64 total], .int .i64 q] X fun e w' => e = .returned (.int .i64 a) ∧ Below X.heap.size X w' := fun X hX => by
  have := rof_any A ls cap n total q X B (h.keep (hX.mono hB) (Nat.le_refl _)) (by have := hX.size; omega) hn hl hall hq
  rwa [h1] at this
theorem rname_in (hs : pn.size ≤ maxLen) (r : Bool) (h1 : nameB pn = r) : ∀ X, Calls Try.prog 34 #[.string pn] X fun e w' => e = .returned (.bool r) ∧ X = w' := fun X => by
  have := rname_any pn X hs
  rwa [h1] at this

set_option maxRecDepth 100000 in
set_option maxHeartbeats 4000000 in
theorem rsale_any (h : Elems tLine w B A ls) (h2 : Elems tMean w B A2 ms) (hB : B ≤ w.heap.size) (hn : ls.length = n) (hl : n ≤ 60) (ht : fits total) (hn2 : ms.length = n2) (hl2 : n2 ≤ 9223372036854775807) (hpn : pn.size ≤ maxLen) :
    Calls Try.prog 13 #[.agg #[.slice A n cap, .int .i64 total], .string pn, .slice A2 n2 cap2] w (Booked w (saleL ls total pn ms) (saleE ls total pn ms)) := by
  obtain ⟨tb, htb⟩ : ∃ v, totB ms = v := ⟨_, rfl⟩
  obtain ⟨r, hr⟩ : ∃ v, rightB ls total = v := ⟨_, rfl⟩
  obtain ⟨nb, hnb⟩ : ∃ v, nameB pn = v := ⟨_, rfl⟩
  have Hfor := Lib.hid (formed_in (cap2 := cap2) h2 hB hn2 hl2 tb htb)
  have Hrgt := Lib.hid (rright_in (cap := cap) h hB hn hl ht r hr)
  have Hnam := Lib.hid (rname_in hpn nb hnb)
  have hse : saleE ls total pn ms = if (r && nb && tb) = true then (if sumM ms = total then 0 else 19) else 1 := by unfold saleE; rw [hr, hnb, htb]
  have HSE := Lib.hid hse
  have HE := Lib.hid (And.intro h (And.intro h2 (And.intro htb hr)))
  clear htb hr hnb hse h h2
  by_cases hgood : r = true ∧ nb = true ∧ tb = true
  · obtain ⟨rfl, rfl, rfl⟩ := hgood
    have hs0 : saleE ls total pn ms = if sumM ms = total then 0 else 19 := by rw [HSE.out]; rfl
    obtain ⟨hm12, hok⟩ := totB_out HE.out.2.2.1
    obtain ⟨tv, htv⟩ : ∃ v, sumM ms = v := ⟨_, rfl⟩
    have Hsm := Lib.hid (rsum_in (cap2 := cap2) HE.out.2.1 hB hn2 (by omega) hok tv htv)
    rw [htv] at hs0
    obtain ⟨hall, hsum, ht0, ht1⟩ := right_out HE.out.2.2.2
    by_cases hm : tv = total
    · have hs1 : saleE ls total pn ms = 0 := by rw [hs0, if_pos hm]
      have hL : saleL ls total pn ms = payL ms (-1) ++ partsL (partOf 1 ls) (partOf 2 ls) (partOf 3 ls) := by unfold saleL; rw [if_pos hs1]
      rw [hL, hs1]
      obtain ⟨S1, hS1⟩ : ∃ v, partOf 1 ls = v := ⟨_, rfl⟩
      obtain ⟨S2, hS2⟩ : ∃ v, partOf 2 ls = v := ⟨_, rfl⟩
      obtain ⟨S3, hS3⟩ : ∃ v, partOf 3 ls = v := ⟨_, rfl⟩
      have Hof1 := Lib.hid (rof_in (cap := cap) (total := total) HE.out.1 hB hn hl hall 1 (by omega) S1 hS1)
      have Hof2 := Lib.hid (rof_in (cap := cap) (total := total) HE.out.1 hB hn hl hall 2 (by omega) S2 hS2)
      have Hof3 := Lib.hid (rof_in (cap := cap) (total := total) HE.out.1 hB hn hl hall 3 (by omega) S3 hS3)
      have hP1 := partOf_bd 1 ls hall
      have hP2 := partOf_bd 2 ls hall
      have hP3 := partOf_bd 3 ls hall
      rw [hsum] at hP1 hP2 hP3
      rw [hS1] at hP1 ⊢
      rw [hS2] at hP2 ⊢
      rw [hS3] at hP3 ⊢
      have Hok := Lib.hid (okM_in hok)
      subst hm
      clear hL hs1 hs0 HSE hS1 hS2 hS3 hall hsum hok htv
      have q5 : (tv != tv) = false := by simp
      go_enter Try.func13, Try.ntmps13
      go_upto_region 3 with (first
        | (go_at_call 35; refine Calls.mono (Hfor.out _ ?bel) ?_; (case bel => (repeat (first | with_reducible exact Below.refl _ _ | with_reducible assumption | with_reducible refine Below.alloc0 ?_ _ | with_reducible refine Below.ext0 ?_ _ | with_reducible refine Below.drew ?_ | with_reducible refine below_drewN ?_ _ | (with_reducible refine Below.setCell (hp := ?hp) ?_ _; case hp => (first | (simp; done) | (simp; omega)))))); rintro e w' ⟨rfl, hb⟩; (first | (obtain ⟨u, rfl⟩ := ext_more hb; clear hb) | (obtain ⟨u, rfl⟩ := ext_more_alloc hb; clear hb) | (obtain ⟨u, rfl⟩ := ext_of hb; clear hb)))
        | (go_at_call 33; refine Calls.mono (Hrgt.out _ ?bel) ?_; (case bel => (repeat (first | with_reducible exact Below.refl _ _ | with_reducible assumption | with_reducible refine Below.alloc0 ?_ _ | with_reducible refine Below.ext0 ?_ _ | with_reducible refine Below.drew ?_ | with_reducible refine below_drewN ?_ _ | (with_reducible refine Below.setCell (hp := ?hp) ?_ _; case hp => (first | (simp; done) | (simp; omega)))))); rintro e w' ⟨rfl, hb⟩; (first | (obtain ⟨u, rfl⟩ := ext_more hb; clear hb) | (obtain ⟨u, rfl⟩ := ext_more_alloc hb; clear hb) | (obtain ⟨u, rfl⟩ := ext_of hb; clear hb)))
        | (go_at_call 34; refine Calls.mono (Hnam.out _) ?_; rintro e w' ⟨rfl, rfl⟩))
      refine forget (fun X => Below w.heap.size w X ∧ Bk X w.heap.size #[.slice A n cap, .int .i64 tv] 24 ∧ Bk X (w.heap.size + 1) #[.int .i64 0, .slice none 0 0] 34) ⟨by (repeat (first | with_reducible exact Below.refl _ _ | with_reducible assumption | with_reducible refine Below.alloc0 ?_ _ | with_reducible refine Below.ext0 ?_ _ | with_reducible refine Below.drew ?_ | with_reducible refine below_drewN ?_ _ | (with_reducible refine Below.setCell (hp := ?hp) ?_ _; case hp => (first | (simp; done) | (simp; omega))))), (((Bk.new w _ _).alloc _).ext _), ((bk_new_at _ _ _ _ (by simp)).ext _)⟩ ?_
      rintro X ⟨hw, b0, b1⟩
      have c0 := b0.cell
      have l0 := b0.lt
      have HX := Lib.hid (And.intro hw (And.intro b0 b1))
      have HwX := Lib.hid hw
      clear hw b0 b1 Hfor Hrgt Hnam
      go_quiet ((go_at_call 36; refine Calls.quiet_of_same (Calls.mono (Hsm.out _ ?bel) fun _ _ h => ⟨h.1, h.2.symm⟩); (case bel => exact below_drewN HwX.out _)))
      have hmn : ms.length ≤ 100 := by omega
      go_wp2_with fail
      refine (paid_any A2 ms cap2 n2 (-1) (X.drewN nq) B (HE.out.2.1.keep (below_drewN (HwX.out.mono hB) _) (Nat.le_refl _)) (by have := HwX.out.size; show B ≤ X.heap.size; omega) hn2 (by omega) Hok.out (.inr rfl)).mono ?_
      rintro e X2 ⟨v0, rfl, z1, z2, z3⟩
      obtain ⟨base, hbase⟩ : ∃ b, X.heap.size = b := ⟨_, rfl⟩
      have hX2 : Below X.heap.size X X2 := ⟨z2.os, z2.tape, z2.output, z2.size, fun k hk => z2.block k hk (by simp [Value.ownBlock])⟩
      change OwnL tPst 55 X2 X.heap.size 0 v0 (payL ms (-1)) at z1
      rw [hbase] at z1
      have hsx := hX2.size
      have hlx := HX.out.2.2.lt
      have hlo := z1.lt
      have hwX2 : Below w.heap.size w X2 := HX.out.1.trans (hX2.mono HX.out.1.size)
      have HA := Lib.hid (And.intro hwX2 (And.intro (HX.out.2.1.below hX2) (And.intro (HX.out.2.2.below hX2) z1)))
      clear z1 z2 z3 hX2 hwX2 HX HwX c0 l0
      obtain ⟨qA, hq1⟩ : ∃ q, payL ms (-1) = q := ⟨_, rfl⟩
      have hq1l : qA.length ≤ 12 := by
        rw [← hq1]
        have := payL_len ms (-1) ms.length
        rw [List.take_length] at this
        omega
      rw [hq1] at HA
      have Hq1 := Lib.hid hq1
      clear hq1
      obtain ⟨A0x, c0x, hv0x, _, _⟩ := HA.out.2.2.2.form
      subst hv0x
      go_upto_region 6 with (fail)
      refine forget (fun Y => Below w.heap.size w Y ∧ Bk Y w.heap.size #[.slice A n cap, .int .i64 tv] 24 ∧ Bk Y (w.heap.size + 1) #[.int .i64 0, .slice none 0 0] 34 ∧ Bk Y X2.heap.size #[.int .i64 0, .slice A0x qA.length c0x] 34 ∧ OwnL tPst 55 Y base 0 (.slice A0x qA.length c0x) qA) ⟨HA.out.1.alloc HA.out.1.size _, HA.out.2.1.alloc _, HA.out.2.2.1.alloc _, Bk.new _ _ _, HA.out.2.2.2.below (below_self _ _) (by omega)⟩ ?_
      obtain ⟨bb, hbb⟩ : ∃ b, X2.heap.size = b := ⟨_, rfl⟩
      rw [hbb]
      obtain ⟨v0, hv0⟩ : ∃ v, (Value.slice A0x qA.length c0x) = v := ⟨_, rfl⟩
      rw [hv0] at hlo ⊢
      clear hv0
      have hne0 : ∀ g, v0.ownBlock = some g → g ≠ bb := fun g hg => by have := hlo g hg; omega
      have hwb : w.heap.size + 1 < base := by omega
      have hbb2 : base ≤ bb := by omega
      clear HA hlo hsx hlx
      rintro Y0 ⟨hw, b0, b1, b2, hown⟩
      obtain ⟨A0, c0, rfl, _, _⟩ := hown.form
      have d0 := b0.cell
      have d2 := b2.cell
      have m0 := b0.lt
      have m2 := b2.lt
      have hsY := hw.size
      have hol := hown.lt
      have HY0 := Lib.hid (And.intro hw (And.intro b0 (And.intro b1 (And.intro b2 hown))))
      clear hw b0 b1 b2 hown
      have hlq0 : qA.length ≤ 12 := hq1l
      refine region_wild Y0 3 43 [] (fun _ _ _ => True) (Below.refl _ _) (by kernel_rfl) (by kernel_rfl) rfl (fun _ _ _ _ _ _ => trivial) ?_
      apply Exists.intro
      refine ⟨?_, ?_, ?_⟩
      · intro X hX
        obtain ⟨u, rfl⟩ := ext_of hX
        clear hX
        simp only [List.take_succ_cons, List.take_zero]
        simp [muteAt, mute]
        repeat (go_big_quiet_step ((go_at_call 39; refine Calls.in_ext (Hof1.out _ ?_); exact (HY0.out.1.trans ((below_ext _ _).mono hsY)).trans ((below_ext _ _).mono (Nat.le_trans hsY (size_ext _ _))))))
        exact wpQuiet_nil rfl
      · intro w9 hw9 j hj
        cases hj
      · intro xs X3 hb3 _ _ _
        simp only [List.drop_succ_cons, List.drop_zero, putAll]
        have hs3 := hb3.size
        go_wp2_with fail
        refine (rpost_any base (.slice A0 qA.length c0) qA 2 noName S1 X3 (HY0.out.2.2.2.2.below hb3 (by omega)) (by omega) (by omega) (by show _ ≤ (2:Int) ∧ (2:Int) ≤ _; omega) (by show 0 ≤ maxLen; omega) (by show _ ≤ S1 ∧ S1 ≤ _; omega)).mono ?_
        rintro e X4 ⟨v1, rfl, z1, z2, z3⟩
        have hs4 : X3.heap.size ≤ X4.heap.size := z2.size
        have hS : ∀ g, (Value.slice A0 qA.length c0).ownBlock = some g → w.heap.size ≤ g := fun g hg => by have := (hol g hg).1; omega
        have hw4 : Below w.heap.size w X4 := (HY0.out.1.trans (hb3.mono hsY)).trans (z2.to_below hS (by omega))
        have b0 := (HY0.out.2.1.below hb3).only z2 (fun h => by have := (hol _ h).1; omega)
        have b1 := (HY0.out.2.2.1.below hb3).only z2 (fun h => by have := (hol _ h).1; omega)
        have b2 := (HY0.out.2.2.2.1.below hb3).only z2 (fun h => hne0 _ h rfl)
        have hne1 : ∀ g, v1.ownBlock = some g → g ≠ bb := fun g hg => by
          rcases z3 g hg with h | h
          · exact hne0 g h
          · omega
        have HZ := Lib.hid (And.intro hw4 (And.intro b0 (And.intro b1 (And.intro b2 z1))))
        have x1 := b1.cell
        have x2 := b2.cell
        have e1 := b1.free
        have e2 := b2.free
        have l1 := b1.lt
        have l2 := b2.lt
        have hzl := z1.lt
        obtain ⟨q1, hq1⟩ : ∃ q, qA ++ postL [((2, noName), S1)] = q := ⟨_, rfl⟩
        rw [hq1] at HZ z1
        have Hq1x := Lib.hid hq1
        obtain ⟨A9, c9, hv9, hc9, hm9⟩ := z1.form
        have HCM := Lib.hid (And.intro hc9 hm9)
        clear hc9 hm9
        clear z1 z2 z3 hw4 b0 b1 b2 hS hq1 d0 d2 m0 m2 hs3 hb3 hol
        subst hv9
        go_upto_region 7 with (fail)
        have ho9 : Only (fun g => g = bb) X4 ((X4.setCell ⟨bb, 0, none⟩ (.int .i64 0)).setCell ⟨bb, 1, none⟩ (.slice A9 q1.length c9)) := ((Only.refl (fun g => g = bb) X4).set_ (p := ⟨bb, 0, none⟩) (.inl rfl) _).set_ (p := ⟨bb, 1, none⟩) (.inl rfl) _
        refine forget (fun Y => Below w.heap.size w Y ∧ Bk Y w.heap.size #[.slice A n cap, .int .i64 tv] 24 ∧ Bk Y (w.heap.size + 1) #[.int .i64 0, .slice none 0 0] 34 ∧ Bk Y bb #[.int .i64 0, .slice A9 q1.length c9] 34 ∧ OwnL tPst 55 Y base 0 (.slice A9 q1.length c9) q1) ⟨HZ.out.1.trans (ho9.to_below (fun g hg => by omega) HZ.out.1.size), HZ.out.2.1.only ho9 (by omega), HZ.out.2.2.1.only ho9 (by omega), (HZ.out.2.2.2.1.set_ 0 (.int .i64 0)).set_ 1 (.slice A9 q1.length c9), HZ.out.2.2.2.2.only ho9 (fun g hg => by omega) (by omega) (fun g hg h => hne1 g hg h)⟩ ?_
        clear ho9 HZ x1 x2 e1 e2 l1 l2 hzl
        obtain ⟨v1, hv1x⟩ : ∃ v, (Value.slice A9 q1.length c9) = v := ⟨_, rfl⟩
        rw [hv1x] at hne1 ⊢
        clear hv1x
        rintro Y1 ⟨hw, b0, b1, b2, hown⟩
        obtain ⟨A1, c1, rfl, _, _⟩ := hown.form
        have d0 := b0.cell
        have d2 := b2.cell
        have m0 := b0.lt
        have m2 := b2.lt
        have hsY := hw.size
        have hol := hown.lt
        have HY1 := Lib.hid (And.intro hw (And.intro b0 (And.intro b1 (And.intro b2 hown))))
        clear hw b0 b1 b2 hown
        have hlq1 : q1.length ≤ 13 := by rw [← Hq1x.out, List.length_append]; have := post_one_len ((2, noName), S1); omega
        refine region_wild Y1 3 43 [] (fun _ _ _ => True) (Below.refl _ _) (by kernel_rfl) (by kernel_rfl) rfl (fun _ _ _ _ _ _ => trivial) ?_
        apply Exists.intro
        refine ⟨?_, ?_, ?_⟩
        · intro X hX
          obtain ⟨u, rfl⟩ := ext_of hX
          clear hX
          simp only [List.take_succ_cons, List.take_zero]
          simp [muteAt, mute]
          repeat (go_big_quiet_step ((go_at_call 39; refine Calls.in_ext (Hof2.out _ ?_); exact (HY1.out.1.trans ((below_ext _ _).mono hsY)).trans ((below_ext _ _).mono (Nat.le_trans hsY (size_ext _ _))))))
          exact wpQuiet_nil rfl
        · intro w9 hw9 j hj
          cases hj
        · intro xs X3 hb3 _ _ _
          simp only [List.drop_succ_cons, List.drop_zero, putAll]
          have hs3 := hb3.size
          go_wp2_with fail
          refine (rpost_any base (.slice A1 q1.length c1) q1 1 noName S2 X3 (HY1.out.2.2.2.2.below hb3 (by omega)) (by omega) (by omega) (by show _ ≤ (1:Int) ∧ (1:Int) ≤ _; omega) (by show 0 ≤ maxLen; omega) (by show _ ≤ S2 ∧ S2 ≤ _; omega)).mono ?_
          rintro e X4 ⟨v2, rfl, z1, z2, z3⟩
          have hs4 : X3.heap.size ≤ X4.heap.size := z2.size
          have hS : ∀ g, (Value.slice A1 q1.length c1).ownBlock = some g → w.heap.size ≤ g := fun g hg => by have := (hol g hg).1; omega
          have hw4 : Below w.heap.size w X4 := (HY1.out.1.trans (hb3.mono hsY)).trans (z2.to_below hS (by omega))
          have b0 := (HY1.out.2.1.below hb3).only z2 (fun h => by have := (hol _ h).1; omega)
          have b1 := (HY1.out.2.2.1.below hb3).only z2 (fun h => by have := (hol _ h).1; omega)
          have b2 := (HY1.out.2.2.2.1.below hb3).only z2 (fun h => hne1 _ h rfl)
          have hne2 : ∀ g, v2.ownBlock = some g → g ≠ bb := fun g hg => by
            rcases z3 g hg with h | h
            · exact hne1 g h
            · omega
          have HZ := Lib.hid (And.intro hw4 (And.intro b0 (And.intro b1 (And.intro b2 z1))))
          have x1 := b1.cell
          have x2 := b2.cell
          have e1 := b1.free
          have e2 := b2.free
          have l1 := b1.lt
          have l2 := b2.lt
          have hzl := z1.lt
          obtain ⟨q2, hq2⟩ : ∃ q, q1 ++ postL [((1, noName), S2)] = q := ⟨_, rfl⟩
          rw [hq2] at HZ z1
          have Hq2x := Lib.hid hq2
          obtain ⟨A9, c9, hv9, hc9, hm9⟩ := z1.form
          have HCM := Lib.hid (And.intro hc9 hm9)
          clear hc9 hm9
          clear z1 z2 z3 hw4 b0 b1 b2 hS hq2 d0 d2 m0 m2 hs3 hb3 hol
          subst hv9
          go_upto_region 8 with (fail)
          have ho9 : Only (fun g => g = bb) X4 ((X4.setCell ⟨bb, 0, none⟩ (.int .i64 0)).setCell ⟨bb, 1, none⟩ (.slice A9 q2.length c9)) := ((Only.refl (fun g => g = bb) X4).set_ (p := ⟨bb, 0, none⟩) (.inl rfl) _).set_ (p := ⟨bb, 1, none⟩) (.inl rfl) _
          refine forget (fun Y => Below w.heap.size w Y ∧ Bk Y w.heap.size #[.slice A n cap, .int .i64 tv] 24 ∧ Bk Y (w.heap.size + 1) #[.int .i64 0, .slice none 0 0] 34 ∧ Bk Y bb #[.int .i64 0, .slice A9 q2.length c9] 34 ∧ OwnL tPst 55 Y base 0 (.slice A9 q2.length c9) q2) ⟨HZ.out.1.trans (ho9.to_below (fun g hg => by omega) HZ.out.1.size), HZ.out.2.1.only ho9 (by omega), HZ.out.2.2.1.only ho9 (by omega), (HZ.out.2.2.2.1.set_ 0 (.int .i64 0)).set_ 1 (.slice A9 q2.length c9), HZ.out.2.2.2.2.only ho9 (fun g hg => by omega) (by omega) (fun g hg h => hne2 g hg h)⟩ ?_
          clear ho9 HZ x1 x2 e1 e2 l1 l2 hzl
          obtain ⟨v2, hv2x⟩ : ∃ v, (Value.slice A9 q2.length c9) = v := ⟨_, rfl⟩
          rw [hv2x] at hne2 ⊢
          clear hv2x
          rintro Y2 ⟨hw, b0, b1, b2, hown⟩
          obtain ⟨A2, c2, rfl, _, _⟩ := hown.form
          have d0 := b0.cell
          have d2 := b2.cell
          have m0 := b0.lt
          have m2 := b2.lt
          have hsY := hw.size
          have hol := hown.lt
          have HY2 := Lib.hid (And.intro hw (And.intro b0 (And.intro b1 (And.intro b2 hown))))
          clear hw b0 b1 b2 hown
          have hlq2 : q2.length ≤ 14 := by rw [← Hq2x.out, List.length_append]; have := post_one_len ((1, noName), S2); omega
          refine region_wild Y2 3 43 [] (fun _ _ _ => True) (Below.refl _ _) (by kernel_rfl) (by kernel_rfl) rfl (fun _ _ _ _ _ _ => trivial) ?_
          apply Exists.intro
          refine ⟨?_, ?_, ?_⟩
          · intro X hX
            obtain ⟨u, rfl⟩ := ext_of hX
            clear hX
            simp only [List.take_succ_cons, List.take_zero]
            simp [muteAt, mute]
            repeat (go_big_quiet_step ((go_at_call 39; refine Calls.in_ext (Hof3.out _ ?_); exact (HY2.out.1.trans ((below_ext _ _).mono hsY)).trans ((below_ext _ _).mono (Nat.le_trans hsY (size_ext _ _))))))
            exact wpQuiet_nil rfl
          · intro w9 hw9 j hj
            cases hj
          · intro xs X3 hb3 _ _ _
            simp only [List.drop_succ_cons, List.drop_zero, putAll]
            have hs3 := hb3.size
            go_wp2_with fail
            refine (rpost_any base (.slice A2 q2.length c2) q2 3 noName S3 X3 (HY2.out.2.2.2.2.below hb3 (by omega)) (by omega) (by omega) (by show _ ≤ (3:Int) ∧ (3:Int) ≤ _; omega) (by show 0 ≤ maxLen; omega) (by show _ ≤ S3 ∧ S3 ≤ _; omega)).mono ?_
            rintro e X4 ⟨v3, rfl, z1, z2, z3⟩
            have hs4 : X3.heap.size ≤ X4.heap.size := z2.size
            have hS : ∀ g, (Value.slice A2 q2.length c2).ownBlock = some g → w.heap.size ≤ g := fun g hg => by have := (hol g hg).1; omega
            have hw4 : Below w.heap.size w X4 := (HY2.out.1.trans (hb3.mono hsY)).trans (z2.to_below hS (by omega))
            have b0 := (HY2.out.2.1.below hb3).only z2 (fun h => by have := (hol _ h).1; omega)
            have b1 := (HY2.out.2.2.1.below hb3).only z2 (fun h => by have := (hol _ h).1; omega)
            have b2 := (HY2.out.2.2.2.1.below hb3).only z2 (fun h => hne2 _ h rfl)
            have hne3 : ∀ g, v3.ownBlock = some g → g ≠ bb := fun g hg => by
              rcases z3 g hg with h | h
              · exact hne2 g h
              · omega
            have HZ := Lib.hid (And.intro hw4 (And.intro b0 (And.intro b1 (And.intro b2 z1))))
            have x1 := b1.cell
            have x2 := b2.cell
            have e1 := b1.free
            have e2 := b2.free
            have l1 := b1.lt
            have l2 := b2.lt
            have hzl := z1.lt
            obtain ⟨q3, hq3⟩ : ∃ q, q2 ++ postL [((3, noName), S3)] = q := ⟨_, rfl⟩
            rw [hq3] at HZ z1
            have Hq3x := Lib.hid hq3
            obtain ⟨A9, c9, hv9, hc9, hm9⟩ := z1.form
            have HCM := Lib.hid (And.intro hc9 hm9)
            clear hc9 hm9
            clear z1 z2 z3 hw4 b0 b1 b2 hS hq3 d0 d2 m0 m2 hs3 hb3 hol
            subst hv9
            go_wp2_with fail
            have ho9 : Only (fun g => g = w.heap.size + 1) X4 ((X4.setCell ⟨w.heap.size + 1, 0, none⟩ (.int .i64 0)).setCell ⟨w.heap.size + 1, 1, none⟩ (.slice A9 q3.length c9)) := ((Only.refl (fun g => g = w.heap.size + 1) X4).set_ (p := ⟨w.heap.size + 1, 0, none⟩) (.inl rfl) _).set_ (p := ⟨w.heap.size + 1, 1, none⟩) (.inl rfl) _
            have hE9 := (HZ.out.2.2.2.2.only ho9 (fun g hg => by omega) (by omega) (fun g hg h => by have := (hzl g hg).1; omega)).elems (B2 := ((X4.setCell ⟨w.heap.size + 1, 0, none⟩ (.int .i64 0)).setCell ⟨w.heap.size + 1, 1, none⟩ (.slice A9 q3.length c9)).heap.size) (by omega) (Nat.le_refl _)
            have hB9 := HZ.out.1.trans (ho9.to_below (fun g hg => by omega) (HZ.out.1.size))
            have hfin : payL ms (-1) ++ partsL S1 S2 S3 = q3 := by rw [Hq1.out, ← Hq3x.out, ← Hq2x.out, ← Hq1x.out, parts_three]; simp [List.append_assoc]
            rw [hfin]
            exact bodyPost_ret (v := .tuple #[.agg #[.int .i64 0, .slice A9 q3.length c9], .int .i64 0]) (by simp [results, Try.results13, go_sem, x1, e1, l1]) rfl (booked_some rfl hE9 HCM.out.1 HCM.out.2 hB9)
    · have hs1 : saleE ls total pn ms = 19 := by rw [hs0, if_neg hm]
      have hL : saleL ls total pn ms = [] := by unfold saleL; rw [if_neg (by rw [hs1]; decide)]
      rw [hL, hs1]
      have q5 : (tv != total) = true := by simpa using hm
      clear hL hs1 hs0 HSE hall hsum hok
      go_enter Try.func13, Try.ntmps13
      go_upto_region 3 with (first
        | (go_at_call 35; refine Calls.mono (Hfor.out _ ?bel) ?_; (case bel => (repeat (first | with_reducible exact Below.refl _ _ | with_reducible assumption | with_reducible refine Below.alloc0 ?_ _ | with_reducible refine Below.ext0 ?_ _ | with_reducible refine Below.drew ?_ | with_reducible refine below_drewN ?_ _ | (with_reducible refine Below.setCell (hp := ?hp) ?_ _; case hp => (first | (simp; done) | (simp; omega)))))); rintro e w' ⟨rfl, hb⟩; (first | (obtain ⟨u, rfl⟩ := ext_more hb; clear hb) | (obtain ⟨u, rfl⟩ := ext_more_alloc hb; clear hb) | (obtain ⟨u, rfl⟩ := ext_of hb; clear hb)))
        | (go_at_call 33; refine Calls.mono (Hrgt.out _ ?bel) ?_; (case bel => (repeat (first | with_reducible exact Below.refl _ _ | with_reducible assumption | with_reducible refine Below.alloc0 ?_ _ | with_reducible refine Below.ext0 ?_ _ | with_reducible refine Below.drew ?_ | with_reducible refine below_drewN ?_ _ | (with_reducible refine Below.setCell (hp := ?hp) ?_ _; case hp => (first | (simp; done) | (simp; omega)))))); rintro e w' ⟨rfl, hb⟩; (first | (obtain ⟨u, rfl⟩ := ext_more hb; clear hb) | (obtain ⟨u, rfl⟩ := ext_more_alloc hb; clear hb) | (obtain ⟨u, rfl⟩ := ext_of hb; clear hb)))
        | (go_at_call 34; refine Calls.mono (Hnam.out _) ?_; rintro e w' ⟨rfl, rfl⟩))
      refine forget (fun X => Below w.heap.size w X ∧ Bk X w.heap.size #[.slice A n cap, .int .i64 total] 24 ∧ Bk X (w.heap.size + 1) #[.int .i64 0, .slice none 0 0] 34) ⟨by (repeat (first | with_reducible exact Below.refl _ _ | with_reducible assumption | with_reducible refine Below.alloc0 ?_ _ | with_reducible refine Below.ext0 ?_ _ | with_reducible refine Below.drew ?_ | with_reducible refine below_drewN ?_ _ | (with_reducible refine Below.setCell (hp := ?hp) ?_ _; case hp => (first | (simp; done) | (simp; omega))))), (((Bk.new w _ _).alloc _).ext _), ((bk_new_at _ _ _ _ (by simp)).ext _)⟩ ?_
      rintro X ⟨hw, b0, b1⟩
      have c0 := b0.cell
      have l0 := b0.lt
      have c1 := b1.cell
      have l1 := b1.lt
      have e1 := b1.free
      have HwX := Lib.hid hw
      clear hw b0 b1 Hfor Hrgt Hnam
      go_quiet ((go_at_call 36; refine Calls.quiet_of_same (Calls.mono (Hsm.out _ ?bel) fun _ _ h => ⟨h.1, h.2.symm⟩); (case bel => exact below_drewN HwX.out _)))
      go_wp2_with fail
      exact bodyPost_ret (v := .tuple #[.agg #[.int .i64 0, .slice none 0 0], .int .i64 19]) (by simp [results, Try.results13, go_sem, c1, l1, e1]) rfl (booked_none (by have hw := HwX.out; exact ((below_drewN hw _).setCell (by show w.heap.size ≤ w.heap.size + 1; omega) _).setCell (by show w.heap.size ≤ w.heap.size + 1; omega) _) rfl)
  · have hs1 : saleE ls total pn ms = 1 := by
      rw [HSE.out, if_neg]
      intro h
      simp only [Bool.and_eq_true] at h
      exact hgood ⟨h.1.1, h.1.2, h.2⟩
    have hL : saleL ls total pn ms = [] := by unfold saleL; rw [if_neg (by rw [hs1]; decide)]
    rw [hL, hs1]
    clear hL hs1 HSE HE
    have hno : r = false ∨ (r = true ∧ nb = false) ∨ (r = true ∧ nb = true ∧ tb = false) := by
      cases r
      · exact .inl rfl
      · cases nb
        · exact .inr (.inl ⟨rfl, rfl⟩)
        · cases tb
          · exact .inr (.inr ⟨rfl, rfl, rfl⟩)
          · exact absurd ⟨rfl, rfl, rfl⟩ hgood
    clear hgood
    rcases hno with rfl | ⟨rfl, rfl⟩ | ⟨rfl, rfl, rfl⟩
    all_goals
      go_enter Try.func13, Try.ntmps13
      go_wp2_with (first
        | (go_at_call 35; refine Calls.mono (Hfor.out _ ?bel) ?_; (case bel => (repeat (first | with_reducible exact Below.refl _ _ | with_reducible assumption | with_reducible refine Below.alloc0 ?_ _ | with_reducible refine Below.ext0 ?_ _ | with_reducible refine Below.drew ?_ | with_reducible refine below_drewN ?_ _ | (with_reducible refine Below.setCell (hp := ?hp) ?_ _; case hp => (first | (simp; done) | (simp; omega)))))); rintro e w' ⟨rfl, hb⟩; (first | (obtain ⟨u, rfl⟩ := ext_more hb; clear hb) | (obtain ⟨u, rfl⟩ := ext_more_alloc hb; clear hb) | (obtain ⟨u, rfl⟩ := ext_of hb; clear hb)))
        | (go_at_call 33; refine Calls.mono (Hrgt.out _ ?bel) ?_; (case bel => (repeat (first | with_reducible exact Below.refl _ _ | with_reducible assumption | with_reducible refine Below.alloc0 ?_ _ | with_reducible refine Below.ext0 ?_ _ | with_reducible refine Below.drew ?_ | with_reducible refine below_drewN ?_ _ | (with_reducible refine Below.setCell (hp := ?hp) ?_ _; case hp => (first | (simp; done) | (simp; omega)))))); rintro e w' ⟨rfl, hb⟩; (first | (obtain ⟨u, rfl⟩ := ext_more hb; clear hb) | (obtain ⟨u, rfl⟩ := ext_more_alloc hb; clear hb) | (obtain ⟨u, rfl⟩ := ext_of hb; clear hb)))
        | (go_at_call 34; refine Calls.mono (Hnam.out _) ?_; rintro e w' ⟨rfl, rfl⟩))
      all_goals exact bodyPost_ret (v := .tuple #[.agg #[.int .i64 0, .slice none 0 0], .int .i64 1]) (by simp [results, Try.results13, go_sem]) rfl (booked_none (by (repeat (first | with_reducible exact Below.refl _ _ | with_reducible assumption | with_reducible refine Below.alloc0 ?_ _ | with_reducible refine Below.ext0 ?_ _ | with_reducible refine Below.drew ?_ | with_reducible refine below_drewN ?_ _ | (with_reducible refine Below.setCell (hp := ?hp) ?_ _; case hp => (first | (simp; done) | (simp; omega)))))) rfl)
end
end Go.Proofs.Ytggmihnhdojepaa
