/- Layer 13 (decide): Decide. -/
import Derived.Test.YtmklcfmdcfbpeaaDecW
import Derived.Deep.DeepCutAuto
namespace Go.Proofs.Ytmklcfmdcfbpeaa
open Go.RowKit
set_option linter.unusedVariables false
set_option linter.unusedSimpArgs false
attribute [local go_sem] ext_cell ext_frozen lt_ext ext_drew

/-- What the head of Decide leaves. -/
structure Head (w W : World) (A : Option Addr) (n cap : Nat) (f : Fc) : Prop where
  low : Below w.heap.size w W
  pol : Bk W w.heap.size #[.slice A n cap] 24
  fac : Bk W (w.heap.size + 1) (fcV f) 26
  res : Bk W (w.heap.size + 2) (decV false false false 0 0 0 0 0 0 0 0 0 0 0 0 0) 37
  jud : Bk W (w.heap.size + 4) (jcs startJ) 58
  var : Bk W (w.heap.size + 5) #[.pointer (some ⟨w.heap.size + 4, 0, none⟩)] 56

set_option maxRecDepth 100000 in
set_option maxHeartbeats 40000000 in
theorem decide_any (A : Option Addr) (rs : List Rl) (cap n : Nat) (f : Fc) (w : World) (B : Nat) (h : Elems tRl w B A rs) (hB : B ≤ w.heap.size) (hn : rs.length = n) (hl : n ≤ 1000) (hf : f.length = 10) :
    Calls Try.prog 16 #[.agg #[.slice A n cap], .agg (fcV f)] w fun e w' => e = .returned (.agg (dcs (runJ f rs n))) ∧ Below w.heap.size w w' := by
  subst hn
  have HH := Lib.hid h
  have HF := Lib.hid hf
  have hmm := @run_makeMap Try.prog
  clear h hf
  go_enter Try.func16, Try.ntmps16
  go_upto_region 3 with (fail)
  refine forget (fun W => Head w W A rs.length cap f ∧ W.heap.size = w.heap.size + 6) ⟨⟨by (repeat (first | with_reducible exact Below.refl _ _ | with_reducible assumption | with_reducible refine Below.alloc0 ?_ _ | with_reducible refine Below.ext0 ?_ _ | with_reducible refine Below.drew ?_ | with_reducible refine below_drewN ?_ _ | (with_reducible refine Below.setCell (hp := ?hp) ?_ _; case hp => (first | (simp; done) | (simp; omega))))), ?_, ?_, ?_, ?_, ?_⟩, by simp⟩ ?_
  · exact (((((Bk.new w _ _).alloc _).alloc _).alloc _).alloc _).alloc _
  · exact (((((bk_new_at _ _ _ _ (by simp))).alloc _).alloc _).alloc _).alloc _
  · exact ((((bk_new_at _ _ _ _ (by simp))).alloc _).alloc _).alloc _
  · exact (bk_new_at _ _ _ _ (by simp)).alloc _
  · exact bk_new_at _ _ _ _ (by simp)
  rintro W0 ⟨hh, hsz⟩
  have Hsz := Lib.hid hsz
  have hm : IntMap (W0.alloc (.map #[] 0)) (w.heap.size + 6) [] := by have := IntMap.new W0; rwa [hsz] at this
  have hvar : Bk (W0.alloc (.map #[] 0)) (w.heap.size + 5) #[.pointer (some ⟨w.heap.size + 4, 0, none⟩)] 56 := hh.var.alloc _
  have HV : Hid (∀ w', Only (fun b => b = w.heap.size + 6) (W0.alloc (.map #[] 0)) w' → w'.cell? ⟨w.heap.size + 5, 0, none⟩ = some (.pointer (some ⟨w.heap.size + 4, 0, none⟩)) ∧ w.heap.size + 5 < w'.heap.size) := Lib.hid fun w' ho => ⟨(hvar.only ho (by omega)).cell 0, (hvar.only ho (by omega)).lt⟩
  have ho : Only (fun b => b = w.heap.size + 6) (W0.alloc (.map #[] 0)) (W0.alloc (.map #[] 0)) := Only.refl _ _
  have cv := (HV.out _ ho).1
  have lv := (HV.out _ ho).2
  have HD := Lib.hid hh
  clear hvar hh
  go_cut [7] (fun v X => v = .map (some (w.heap.size + 6)) ∧ Head w X A rs.length cap f ∧ IntMap X (w.heap.size + 6) (notesL (w.heap.size + 4) (w.heap.size + 5)))
  -- LOOP
  case first =>
    go_wp2_with (refine list_putI rfl _ _ _ _ rfl 3 59 Try.underlying60 Try.underlying3 rfl (by assumption) _ rfl rfl _ rfl ?_; intro w9 hm9 ho9; replace ho := ho.trans ho9; replace hm := hm9; replace cv := (HV.out _ ho).1; replace lv := (HV.out _ ho).2; clear hm9 ho9)
    go_meet
    have h0 := HD.out
    have hz := Hsz.out
    have hlow : Below w.heap.size w (W0.alloc (.map #[] 0)) := Below.alloc0 h0.low _
    exact ⟨rfl, ⟨hlow.trans (ho.to_below (fun b hb => by omega) hlow.size), (h0.pol.alloc _).only ho (by omega), (h0.fac.alloc _).only ho (by omega), (h0.res.alloc _).only ho (by omega), (h0.jud.alloc _).only ho (by omega), (h0.var.alloc _).only ho (by omega)⟩, hm⟩
  case rest =>
  obtain ⟨W, hW9⟩ : ∃ W, W = wc := ⟨_, rfl⟩
  rw [← hW9] at hcut ⊢
  obtain ⟨rfl, hh, hm9⟩ := hcut
  clear hW9 hm ho cv lv HV HD Hsz hsz
  have hm := hm9
  clear hm9
  have hBg : B ≤ w.heap.size := hB
  have c0 : W.cell? ⟨w.heap.size, 0, none⟩ = some (.slice A rs.length cap) := hh.pol.cell 0
  have l0 := hh.pol.lt
  have HD := Lib.hid (And.intro hh hm)
  have HE := Lib.hid (HH.out.keep (hh.low.mono hBg) (Nat.le_refl _))
  have lmW := hm.lt
  clear hh hm HH hmm
  go_wp2_with fail
  go_loopw [37] (fun i wr => ∃ (k : Nat), k ≤ rs.length ∧ i = .int .i64 k ∧ Bk wr (w.heap.size + 4) (jcs (runJ f rs k)) 58 ∧ Only (fun b => b = w.heap.size + 4) W wr) (fun i _ => rs.length - (intOf i).toNat)
  case atStart => exact ⟨0, by omega, rfl, HD.out.1.jud, Only.refl _ _⟩
  case round =>
    obtain ⟨k, hk, rfl, hj, hon⟩ := hrel
    have hE := HE.out.keep (hon.to_below (B := B) (fun b hb => by omega) (by omega)) (Nat.le_refl _)
    have hvar := HD.out.1.var.only hon (by omega)
    have hfac := HD.out.1.fac.only hon (by omega)
    have hmap := HD.out.2.only hon (by omega)
    have hsz : w.heap.size + 6 < wr.heap.size := hmap.lt
    have HX := Lib.hid (And.intro hj (And.intro hon (And.intro hvar (And.intro hfac hmap))))
    have hvc : wr.cell? ⟨w.heap.size + 5, 0, none⟩ = some (.pointer (some ⟨w.heap.size + 4, 0, none⟩)) := hvar.cell 0
    clear hj hon hvar hfac hmap
    by_cases hlt : k < rs.length
    · obtain ⟨b, off, kd, nm, AZ, zs, zc, num, rn, rd, sn, sd, rfl, hb, Hk, d0, d1, d2, d3, d4, d5, d6, d7, f1, f2, f3, hZ, _, _⟩ := pick_rule hE hlt
      have bw : b < wr.heap.size := by omega
      have hzl : zs.length ≤ 9223372036854775807 := by unfold maxLen at f3; omega
      have hZ2 : Elems tZn (wr.alloc (.cells #[.int .i64 kd, .string nm, .slice AZ zs.length zc, .int .i64 num, .int .i64 rn, .int .i64 rd, .int .i64 sn, .int .i64 sd] 34)) B AZ zs := hZ.keep ((below_self wr _).mono (by omega)) (Nat.le_refl _)
      have hjud := HX.out.1.alloc (.cells #[.int .i64 kd, .string nm, .slice AZ zs.length zc, .int .i64 num, .int .i64 rn, .int .i64 rd, .int .i64 sn, .int .i64 sd] 34)
      have hvar := HX.out.2.2.1.alloc (.cells #[.int .i64 kd, .string nm, .slice AZ zs.length zc, .int .i64 num, .int .i64 rn, .int .i64 rd, .int .i64 sn, .int .i64 sd] 34)
      have hfac := HX.out.2.2.2.1.alloc (.cells #[.int .i64 kd, .string nm, .slice AZ zs.length zc, .int .i64 num, .int .i64 rn, .int .i64 rd, .int .i64 sn, .int .i64 sd] 34)
      have hmap := HX.out.2.2.2.2.below (below_self wr (.cells #[.int .i64 kd, .string nm, .slice AZ zs.length zc, .int .i64 num, .int .i64 rn, .int .i64 rd, .int .i64 sn, .int .i64 sd] 34))
      have hloc := Bk.new wr #[.int .i64 kd, .string nm, .slice AZ zs.length zc, .int .i64 num, .int .i64 rn, .int .i64 rd, .int .i64 sn, .int .i64 sd] 34
      have x0 : (wr.alloc (.cells #[.int .i64 kd, .string nm, .slice AZ zs.length zc, .int .i64 num, .int .i64 rn, .int .i64 rd, .int .i64 sn, .int .i64 sd] 34)).cell? ⟨w.heap.size + 1, 0, none⟩ = some (.int .i64 (atF f 0)) := by rw [hfac.cell]; exact fcV_at (by rw [HF.out]; omega)
      have x1 : (wr.alloc (.cells #[.int .i64 kd, .string nm, .slice AZ zs.length zc, .int .i64 num, .int .i64 rn, .int .i64 rd, .int .i64 sn, .int .i64 sd] 34)).cell? ⟨w.heap.size + 1, 1, none⟩ = some (.int .i64 (atF f 1)) := by rw [hfac.cell]; exact fcV_at (by rw [HF.out]; omega)
      have x2 : (wr.alloc (.cells #[.int .i64 kd, .string nm, .slice AZ zs.length zc, .int .i64 num, .int .i64 rn, .int .i64 rd, .int .i64 sn, .int .i64 sd] 34)).cell? ⟨w.heap.size + 1, 2, none⟩ = some (.int .i64 (atF f 2)) := by rw [hfac.cell]; exact fcV_at (by rw [HF.out]; omega)
      have x3 : (wr.alloc (.cells #[.int .i64 kd, .string nm, .slice AZ zs.length zc, .int .i64 num, .int .i64 rn, .int .i64 rd, .int .i64 sn, .int .i64 sd] 34)).cell? ⟨w.heap.size + 1, 3, none⟩ = some (.int .i64 (atF f 3)) := by rw [hfac.cell]; exact fcV_at (by rw [HF.out]; omega)
      have x4 : (wr.alloc (.cells #[.int .i64 kd, .string nm, .slice AZ zs.length zc, .int .i64 num, .int .i64 rn, .int .i64 rd, .int .i64 sn, .int .i64 sd] 34)).cell? ⟨w.heap.size + 1, 4, none⟩ = some (.int .i64 (atF f 4)) := by rw [hfac.cell]; exact fcV_at (by rw [HF.out]; omega)
      have x5 : (wr.alloc (.cells #[.int .i64 kd, .string nm, .slice AZ zs.length zc, .int .i64 num, .int .i64 rn, .int .i64 rd, .int .i64 sn, .int .i64 sd] 34)).cell? ⟨w.heap.size + 1, 5, none⟩ = some (.int .i64 (atF f 5)) := by rw [hfac.cell]; exact fcV_at (by rw [HF.out]; omega)
      have x6 : (wr.alloc (.cells #[.int .i64 kd, .string nm, .slice AZ zs.length zc, .int .i64 num, .int .i64 rn, .int .i64 rd, .int .i64 sn, .int .i64 sd] 34)).cell? ⟨w.heap.size + 1, 6, none⟩ = some (.int .i64 (atF f 6)) := by rw [hfac.cell]; exact fcV_at (by rw [HF.out]; omega)
      have x7 : (wr.alloc (.cells #[.int .i64 kd, .string nm, .slice AZ zs.length zc, .int .i64 num, .int .i64 rn, .int .i64 rd, .int .i64 sn, .int .i64 sd] 34)).cell? ⟨w.heap.size + 1, 7, none⟩ = some (.int .i64 (atF f 7)) := by rw [hfac.cell]; exact fcV_at (by rw [HF.out]; omega)
      have x8 : (wr.alloc (.cells #[.int .i64 kd, .string nm, .slice AZ zs.length zc, .int .i64 num, .int .i64 rn, .int .i64 rd, .int .i64 sn, .int .i64 sd] 34)).cell? ⟨w.heap.size + 1, 8, none⟩ = some (.int .i64 (atF f 8)) := by rw [hfac.cell]; exact fcV_at (by rw [HF.out]; omega)
      have x9 : (wr.alloc (.cells #[.int .i64 kd, .string nm, .slice AZ zs.length zc, .int .i64 num, .int .i64 rn, .int .i64 rd, .int .i64 sn, .int .i64 sd] 34)).cell? ⟨w.heap.size + 1, 9, none⟩ = some (.int .i64 (atF f 9)) := by rw [hfac.cell]; exact fcV_at (by rw [HF.out]; omega)
      have HY := Lib.hid (And.intro hjud (And.intro hvar (And.intro hmap (And.intro hloc hZ2))))
      have honX : Hid (Only (fun b => b = w.heap.size + 4) W (wr.alloc (.cells #[.int .i64 kd, .string nm, .slice AZ zs.length zc, .int .i64 num, .int .i64 rn, .int .i64 rd, .int .i64 sn, .int .i64 sd] 34))) := HX.out.2.1.alloc _
      have Hstep := Lib.hid (runJ_step (f := f) Hk.out)
      obtain ⟨hb', hhb⟩ : ∃ v, (zs.any fun z => inZ z f) = v := ⟨_, rfl⟩
      have Hhb := Lib.hid hhb
      have hstepT : Hid (hb' = false → runJ f rs (k + 1) = runJ f rs k) := Lib.hid fun e => by
        rw [Hstep.out]; unfold stepJ holdsB; rw [show (zs.any fun z => inZ z f) = false from Hhb.out.trans e]; rfl
      have hstepY : Hid (hb' = true → runJ f rs (k + 1) = noteJ (runJ f rs k) k (kd, nm, zs, num, (rn, rd), (sn, sd))) := Lib.hid fun e => by
        rw [Hstep.out]; unfold stepJ holdsB; rw [show (zs.any fun z => inZ z f) = true from Hhb.out.trans e]; rfl
      have hholds : ∀ X, Below (wr.alloc (.cells #[.int .i64 kd, .string nm, .slice AZ zs.length zc, .int .i64 num, .int .i64 rn, .int .i64 rd, .int .i64 sn, .int .i64 sd] 34)).heap.size (wr.alloc (.cells #[.int .i64 kd, .string nm, .slice AZ zs.length zc, .int .i64 num, .int .i64 rn, .int .i64 rd, .int .i64 sn, .int .i64 sd] 34)) X →
          Calls Try.prog 12 #[.agg #[.int .i64 kd, .string nm, .slice AZ zs.length zc, .int .i64 num, .int .i64 rn, .int .i64 rd, .int .i64 sn, .int .i64 sd], .agg #[.int .i64 (atF f 0), .int .i64 (atF f 1), .int .i64 (atF f 2), .int .i64 (atF f 3), .int .i64 (atF f 4), .int .i64 (atF f 5), .int .i64 (atF f 6), .int .i64 (atF f 7), .int .i64 (atF f 8), .int .i64 (atF f 9)]] X fun e w' => e = .returned (.bool hb') ∧ Below X.heap.size X w' := fun X hX => by
        have := holds_any kd nm AZ zs zc zs.length num rn rd sn sd f X B (hZ2.keep (hX.mono (by simp; omega)) (Nat.le_refl _)) (by have := hX.size; simp at this; omega) rfl hzl HF.out
        rw [hhb, fcV_lit HF.out] at this
        exact this
      have Hholds := Lib.hid (hholds _ (Below.refl _ _))
      have hk1 : Hid ((k : Int) + 1 = ((k + 1 : Nat) : Int)) := Lib.hid (by omega)
      clear hZ hZ2 hE hjud hvar hfac hmap hloc hhb hholds f1 f2 f3
      have hnq := neq_func
      have hnq0 := neq_nil
      have hkk : kd = 1 ∨ kd = 2 ∨ kd = 3 ∨ kd = 4 ∨ kd = 5 ∨ kd = 6 ∨ kd = 7 ∨ (kd ≠ 1 ∧ kd ≠ 2 ∧ kd ≠ 3 ∧ kd ≠ 4 ∧ kd ≠ 5 ∧ kd ≠ 6 ∧ kd ≠ 7) := by omega
      rcases hkk with rfl | rfl | rfl | rfl | rfl | rfl | rfl | hkk
      · as_aux_lemma =>
          cases hb'
          · go_wp2_with (first
              | (refine list_findI (o := ⟨some 45, _, _, _, _, _⟩) rfl _ _ _ rfl 3 59 Try.underlying60 Try.underlying3 .nilFunc (zeroF _) rfl HY.out.2.2.1 1 rfl ?_; rw [show (findI 1 (notesL (w.heap.size + 4) (w.heap.size + 5))).getD .nilFunc = .func (.func 30) #[.pointer (some ⟨w.heap.size + 4, 0, none⟩)] #[] from rfl])
              | (go_at_call 12; refine Hholds.out.mono ?_; rintro e w' ⟨rfl, hb⟩; obtain ⟨u, rfl⟩ := ext_of hb; clear hb))
            go_roundw
            case rel => exact ⟨k + 1, by omega, by go_num, by rw [hstepT.out (by simp)]; exact HY.out.1.ext _, honX.out.ext0 _⟩
            case measure => simp [intOf]; omega
          · go_wp2_with (first
              | (refine list_findI (o := ⟨some 45, _, _, _, _, _⟩) rfl _ _ _ rfl 3 59 Try.underlying60 Try.underlying3 .nilFunc (zeroF _) rfl HY.out.2.2.1 1 rfl ?_; rw [show (findI 1 (notesL (w.heap.size + 4) (w.heap.size + 5))).getD .nilFunc = .func (.func 30) #[.pointer (some ⟨w.heap.size + 4, 0, none⟩)] #[] from rfl])
              | (go_at_call 12; refine Hholds.out.mono ?_; rintro e w' ⟨rfl, hb⟩; obtain ⟨u, rfl⟩ := ext_of hb; clear hb)
              | (go_at_call 30; refine (permit_any 1 nm AZ zs.length zc num rn rd sn sd k _ (w.heap.size + 4) (runJ f rs k) (HY.out.1.ext u)).mono ?_; rintro e w7 ⟨rfl, hj7, ho7⟩; have H7 := Lib.hid (And.intro hj7 ho7); clear hj7 ho7))
            go_roundw
            case rel => exact ⟨k + 1, by omega, by go_num, by rw [hstepY.out (by simp)]; exact H7.out.1, (honX.out.ext0 _).trans H7.out.2⟩
            case measure => simp [intOf]; omega
      · as_aux_lemma =>
          cases hb'
          · go_wp2_with (first
              | (refine list_findI (o := ⟨some 45, _, _, _, _, _⟩) rfl _ _ _ rfl 3 59 Try.underlying60 Try.underlying3 .nilFunc (zeroF _) rfl HY.out.2.2.1 2 rfl ?_; rw [show (findI 2 (notesL (w.heap.size + 4) (w.heap.size + 5))).getD .nilFunc = .func (.func 31) #[.pointer (some ⟨w.heap.size + 4, 0, none⟩)] #[] from rfl])
              | (go_at_call 12; refine Hholds.out.mono ?_; rintro e w' ⟨rfl, hb⟩; obtain ⟨u, rfl⟩ := ext_of hb; clear hb))
            go_roundw
            case rel => exact ⟨k + 1, by omega, by go_num, by rw [hstepT.out (by simp)]; exact HY.out.1.ext _, honX.out.ext0 _⟩
            case measure => simp [intOf]; omega
          · go_wp2_with (first
              | (refine list_findI (o := ⟨some 45, _, _, _, _, _⟩) rfl _ _ _ rfl 3 59 Try.underlying60 Try.underlying3 .nilFunc (zeroF _) rfl HY.out.2.2.1 2 rfl ?_; rw [show (findI 2 (notesL (w.heap.size + 4) (w.heap.size + 5))).getD .nilFunc = .func (.func 31) #[.pointer (some ⟨w.heap.size + 4, 0, none⟩)] #[] from rfl])
              | (go_at_call 12; refine Hholds.out.mono ?_; rintro e w' ⟨rfl, hb⟩; obtain ⟨u, rfl⟩ := ext_of hb; clear hb)
              | (go_at_call 31; refine (forbid_any 2 nm AZ zs.length zc num rn rd sn sd k _ (w.heap.size + 4) (runJ f rs k) (HY.out.1.ext u)).mono ?_; rintro e w7 ⟨rfl, hj7, ho7⟩; have H7 := Lib.hid (And.intro hj7 ho7); clear hj7 ho7))
            go_roundw
            case rel => exact ⟨k + 1, by omega, by go_num, by rw [hstepY.out (by simp)]; exact H7.out.1, (honX.out.ext0 _).trans H7.out.2⟩
            case measure => simp [intOf]; omega
      · as_aux_lemma =>
          cases hb'
          · go_wp2_with (first
              | (refine list_findI (o := ⟨some 45, _, _, _, _, _⟩) rfl _ _ _ rfl 3 59 Try.underlying60 Try.underlying3 .nilFunc (zeroF _) rfl HY.out.2.2.1 3 rfl ?_; rw [show (findI 3 (notesL (w.heap.size + 4) (w.heap.size + 5))).getD .nilFunc = .func (.func 32) #[.pointer (some ⟨w.heap.size + 4, 0, none⟩)] #[] from rfl])
              | (go_at_call 12; refine Hholds.out.mono ?_; rintro e w' ⟨rfl, hb⟩; obtain ⟨u, rfl⟩ := ext_of hb; clear hb))
            go_roundw
            case rel => exact ⟨k + 1, by omega, by go_num, by rw [hstepT.out (by simp)]; exact HY.out.1.ext _, honX.out.ext0 _⟩
            case measure => simp [intOf]; omega
          · go_wp2_with (first
              | (refine list_findI (o := ⟨some 45, _, _, _, _, _⟩) rfl _ _ _ rfl 3 59 Try.underlying60 Try.underlying3 .nilFunc (zeroF _) rfl HY.out.2.2.1 3 rfl ?_; rw [show (findI 3 (notesL (w.heap.size + 4) (w.heap.size + 5))).getD .nilFunc = .func (.func 32) #[.pointer (some ⟨w.heap.size + 4, 0, none⟩)] #[] from rfl])
              | (go_at_call 12; refine Hholds.out.mono ?_; rintro e w' ⟨rfl, hb⟩; obtain ⟨u, rfl⟩ := ext_of hb; clear hb)
              | (go_at_call 32; refine (price_any 3 nm AZ zs.length zc num rn rd sn sd k _ (w.heap.size + 4) (runJ f rs k) (HY.out.1.ext u)).mono ?_; rintro e w7 ⟨rfl, hj7, ho7⟩; have H7 := Lib.hid (And.intro hj7 ho7); clear hj7 ho7))
            go_roundw
            case rel => exact ⟨k + 1, by omega, by go_num, by rw [hstepY.out (by simp)]; exact H7.out.1, (honX.out.ext0 _).trans H7.out.2⟩
            case measure => simp [intOf]; omega
      · as_aux_lemma =>
          cases hb'
          · go_wp2_with (first
              | (refine list_findI (o := ⟨some 45, _, _, _, _, _⟩) rfl _ _ _ rfl 3 59 Try.underlying60 Try.underlying3 .nilFunc (zeroF _) rfl HY.out.2.2.1 4 rfl ?_; rw [show (findI 4 (notesL (w.heap.size + 4) (w.heap.size + 5))).getD .nilFunc = .func (.func 33) #[.pointer (some ⟨w.heap.size + 4, 0, none⟩)] #[] from rfl])
              | (go_at_call 12; refine Hholds.out.mono ?_; rintro e w' ⟨rfl, hb⟩; obtain ⟨u, rfl⟩ := ext_of hb; clear hb))
            go_roundw
            case rel => exact ⟨k + 1, by omega, by go_num, by rw [hstepT.out (by simp)]; exact HY.out.1.ext _, honX.out.ext0 _⟩
            case measure => simp [intOf]; omega
          · go_wp2_with (first
              | (refine list_findI (o := ⟨some 45, _, _, _, _, _⟩) rfl _ _ _ rfl 3 59 Try.underlying60 Try.underlying3 .nilFunc (zeroF _) rfl HY.out.2.2.1 4 rfl ?_; rw [show (findI 4 (notesL (w.heap.size + 4) (w.heap.size + 5))).getD .nilFunc = .func (.func 33) #[.pointer (some ⟨w.heap.size + 4, 0, none⟩)] #[] from rfl])
              | (go_at_call 12; refine Hholds.out.mono ?_; rintro e w' ⟨rfl, hb⟩; obtain ⟨u, rfl⟩ := ext_of hb; clear hb)
              | (go_at_call 33; refine (resell_any 4 nm AZ zs.length zc num rn rd sn sd k _ (w.heap.size + 4) (runJ f rs k) (HY.out.1.ext u)).mono ?_; rintro e w7 ⟨rfl, hj7, ho7⟩; have H7 := Lib.hid (And.intro hj7 ho7); clear hj7 ho7))
            go_roundw
            case rel => exact ⟨k + 1, by omega, by go_num, by rw [hstepY.out (by simp)]; exact H7.out.1, (honX.out.ext0 _).trans H7.out.2⟩
            case measure => simp [intOf]; omega
      · as_aux_lemma =>
          cases hb'
          · go_wp2_with (first
              | (refine list_findI (o := ⟨some 45, _, _, _, _, _⟩) rfl _ _ _ rfl 3 59 Try.underlying60 Try.underlying3 .nilFunc (zeroF _) rfl HY.out.2.2.1 5 rfl ?_; rw [show (findI 5 (notesL (w.heap.size + 4) (w.heap.size + 5))).getD .nilFunc = .func (.func 34) #[.pointer (some ⟨w.heap.size + 4, 0, none⟩)] #[] from rfl])
              | (go_at_call 12; refine Hholds.out.mono ?_; rintro e w' ⟨rfl, hb⟩; obtain ⟨u, rfl⟩ := ext_of hb; clear hb))
            go_roundw
            case rel => exact ⟨k + 1, by omega, by go_num, by rw [hstepT.out (by simp)]; exact HY.out.1.ext _, honX.out.ext0 _⟩
            case measure => simp [intOf]; omega
          · go_wp2_with (first
              | (refine list_findI (o := ⟨some 45, _, _, _, _, _⟩) rfl _ _ _ rfl 3 59 Try.underlying60 Try.underlying3 .nilFunc (zeroF _) rfl HY.out.2.2.1 5 rfl ?_; rw [show (findI 5 (notesL (w.heap.size + 4) (w.heap.size + 5))).getD .nilFunc = .func (.func 34) #[.pointer (some ⟨w.heap.size + 4, 0, none⟩)] #[] from rfl])
              | (go_at_call 12; refine Hholds.out.mono ?_; rintro e w' ⟨rfl, hb⟩; obtain ⟨u, rfl⟩ := ext_of hb; clear hb)
              | (go_at_call 34; refine (refund_any 5 nm AZ zs.length zc num rn rd sn sd k _ (w.heap.size + 4) (runJ f rs k) (HY.out.1.ext u)).mono ?_; rintro e w7 ⟨rfl, hj7, ho7⟩; have H7 := Lib.hid (And.intro hj7 ho7); clear hj7 ho7))
            go_roundw
            case rel => exact ⟨k + 1, by omega, by go_num, by rw [hstepY.out (by simp)]; exact H7.out.1, (honX.out.ext0 _).trans H7.out.2⟩
            case measure => simp [intOf]; omega
      · as_aux_lemma =>
          cases hb'
          · go_wp2_with (first
              | (refine list_findI (o := ⟨some 45, _, _, _, _, _⟩) rfl _ _ _ rfl 3 59 Try.underlying60 Try.underlying3 .nilFunc (zeroF _) rfl HY.out.2.2.1 6 rfl ?_; rw [show (findI 6 (notesL (w.heap.size + 4) (w.heap.size + 5))).getD .nilFunc = .func (.func 35) #[] #[.pointer (some ⟨w.heap.size + 5, 0, none⟩)] from rfl])
              | (go_at_call 12; refine Hholds.out.mono ?_; rintro e w' ⟨rfl, hb⟩; obtain ⟨u, rfl⟩ := ext_of hb; clear hb))
            go_roundw
            case rel => exact ⟨k + 1, by omega, by go_num, by rw [hstepT.out (by simp)]; exact HY.out.1.ext _, honX.out.ext0 _⟩
            case measure => simp [intOf]; omega
          · go_wp2_with (first
              | (refine list_findI (o := ⟨some 45, _, _, _, _, _⟩) rfl _ _ _ rfl 3 59 Try.underlying60 Try.underlying3 .nilFunc (zeroF _) rfl HY.out.2.2.1 6 rfl ?_; rw [show (findI 6 (notesL (w.heap.size + 4) (w.heap.size + 5))).getD .nilFunc = .func (.func 35) #[] #[.pointer (some ⟨w.heap.size + 5, 0, none⟩)] from rfl])
              | (go_at_call 12; refine Hholds.out.mono ?_; rintro e w' ⟨rfl, hb⟩; obtain ⟨u, rfl⟩ := ext_of hb; clear hb)
              | (go_at_call 35; refine (together_any 6 nm AZ zs.length zc num rn rd sn sd k _ (w.heap.size + 4) (runJ f rs k) (w.heap.size + 5) (HY.out.1.ext u) (HY.out.2.1.ext u)).mono ?_; rintro e w7 ⟨rfl, hj7, ho7⟩; have H7 := Lib.hid (And.intro hj7 ho7); clear hj7 ho7))
            go_roundw
            case rel => exact ⟨k + 1, by omega, by go_num, by rw [hstepY.out (by simp)]; exact H7.out.1, (honX.out.ext0 _).trans H7.out.2⟩
            case measure => simp [intOf]; omega
      · as_aux_lemma =>
          cases hb'
          · go_wp2_with (first
              | (refine list_findI (o := ⟨some 45, _, _, _, _, _⟩) rfl _ _ _ rfl 3 59 Try.underlying60 Try.underlying3 .nilFunc (zeroF _) rfl HY.out.2.2.1 7 rfl ?_; rw [show (findI 7 (notesL (w.heap.size + 4) (w.heap.size + 5))).getD .nilFunc = .func (.func 36) #[] #[.pointer (some ⟨w.heap.size + 5, 0, none⟩)] from rfl])
              | (go_at_call 12; refine Hholds.out.mono ?_; rintro e w' ⟨rfl, hb⟩; obtain ⟨u, rfl⟩ := ext_of hb; clear hb))
            go_roundw
            case rel => exact ⟨k + 1, by omega, by go_num, by rw [hstepT.out (by simp)]; exact HY.out.1.ext _, honX.out.ext0 _⟩
            case measure => simp [intOf]; omega
          · go_wp2_with (first
              | (refine list_findI (o := ⟨some 45, _, _, _, _, _⟩) rfl _ _ _ rfl 3 59 Try.underlying60 Try.underlying3 .nilFunc (zeroF _) rfl HY.out.2.2.1 7 rfl ?_; rw [show (findI 7 (notesL (w.heap.size + 4) (w.heap.size + 5))).getD .nilFunc = .func (.func 36) #[] #[.pointer (some ⟨w.heap.size + 5, 0, none⟩)] from rfl])
              | (go_at_call 12; refine Hholds.out.mono ?_; rintro e w' ⟨rfl, hb⟩; obtain ⟨u, rfl⟩ := ext_of hb; clear hb)
              | (go_at_call 36; refine (single_any 7 nm AZ zs.length zc num rn rd sn sd k _ (w.heap.size + 4) (runJ f rs k) (w.heap.size + 5) (HY.out.1.ext u) (HY.out.2.1.ext u)).mono ?_; rintro e w7 ⟨rfl, hj7, ho7⟩; have H7 := Lib.hid (And.intro hj7 ho7); clear hj7 ho7))
            go_roundw
            case rel => exact ⟨k + 1, by omega, by go_num, by rw [hstepY.out (by simp)]; exact H7.out.1, (honX.out.ext0 _).trans H7.out.2⟩
            case measure => simp [intOf]; omega
      · as_aux_lemma =>
          obtain ⟨k1, k2, k3, k4, k5, k6, k7⟩ := hkk
          have hnone : findI kd (notesL (w.heap.size + 4) (w.heap.size + 5)) = none := by simp [findI, notesL, k1, k2, k3, k4, k5, k6, k7]
          have Hnone := Lib.hid hnone
          have hstepN : Hid (runJ f rs (k + 1) = runJ f rs k) := Lib.hid (by
            cases hb'
            · exact hstepT.out (by simp)
            · rw [hstepY.out (by simp)]; unfold noteJ; simp only; rw [if_neg k1, if_neg k2, if_neg k3, if_neg k4, if_neg k5, if_neg k6, if_neg k7])
          clear hnone
          go_wp2_with (refine list_findI (o := ⟨some 45, _, _, _, _, _⟩) rfl _ _ _ rfl 3 59 Try.underlying60 Try.underlying3 .nilFunc (zeroF _) rfl HY.out.2.2.1 kd rfl ?_; rw [show (findI kd (notesL (w.heap.size + 4) (w.heap.size + 5))).getD .nilFunc = .nilFunc by rw [Hnone.out]; rfl])
          go_roundw
          case rel => exact ⟨k + 1, by omega, by go_num, by rw [hstepN.out]; exact HY.out.1, honX.out⟩
          case measure => simp [intOf]; omega
    · obtain rfl : k = rs.length := by omega
      clear hE
      obtain ⟨S, hS⟩ : ∃ S, runJ f rs rs.length = S := ⟨_, rfl⟩
      have HS := Lib.hid hS
      have hX := HX.out
      rw [hS] at hX
      have HX := Lib.hid hX
      clear hS hX
      obtain ⟨tg, si, lim, price, fn, fd, tn, td, cn, cd, sn, sd, rn, rd, pr, so, ba, al, de⟩ := S
      have c19 : wr.cell? ⟨w.heap.size + 4, 19, none⟩ = some (.int .i64 al) := HX.out.1.cell 19
      have c20 : wr.cell? ⟨w.heap.size + 4, 20, none⟩ = some (.int .i64 de) := HX.out.1.cell 20
      have c16 : wr.cell? ⟨w.heap.size + 4, 16, none⟩ = some (.bool pr) := HX.out.1.cell 16
      have cA : wr.cell? ⟨w.heap.size + 4, 0, none⟩ = some (.bool false) := HX.out.1.cell 0
      have fA := HX.out.1.free 0
      have lj := HX.out.1.lt
      obtain ⟨ok, hok⟩ : ∃ v, okJ ⟨tg, si, lim, price, fn, fd, tn, td, cn, cd, sn, sd, rn, rd, pr, so, ba, al, de⟩ = v := ⟨_, rfl⟩
      obtain ⟨yb, hyb⟩ : ∃ v, byJ ⟨tg, si, lim, price, fn, fd, tn, td, cn, cd, sn, sd, rn, rd, pr, so, ba, al, de⟩ = v := ⟨_, rfl⟩
      have hR : dcs ⟨tg, si, lim, price, fn, fd, tn, td, cn, cd, sn, sd, rn, rd, pr, so, ba, al, de⟩ = decV ok tg si lim price fn fd tn td cn cd sn sd rn rd yb := by rw [← hok, ← hyb]; rfl
      have hok2 : ok = (decide (0 ≤ al) && pr && decide (de < 0)) := hok.symm
      have hyb2 : yb = if 0 ≤ de then de else al := hyb.symm
      have Hok := Lib.hid hok2
      have Hyb := Lib.hid hyb2
      have HR := Lib.hid hR
      clear hok hyb hR hok2 hyb2
      have hcase : (decide (0 ≤ al) = false ∧ decide (de < 0) = true ∧ de < 0) ∨ (decide (0 ≤ al) = false ∧ decide (de < 0) = false ∧ 0 ≤ de) ∨ (decide (0 ≤ al) = true ∧ decide (de < 0) = true ∧ de < 0) ∨ (decide (0 ≤ al) = true ∧ decide (de < 0) = false ∧ 0 ≤ de) := by
        by_cases h1 : 0 ≤ al <;> by_cases h2 : de < 0 <;> simp [h1, h2] <;> omega
      go_upto_region 11 with (fail)
      go_cut [] (fun X => Bk X (w.heap.size + 4) #[.bool ok, .bool tg, .bool si, .int .i64 lim, .int .i64 price, .int .i64 fn, .int .i64 fd, .int .i64 tn, .int .i64 td, .int .i64 cn, .int .i64 cd, .int .i64 sn, .int .i64 sd, .int .i64 rn, .int .i64 rd, .int .i64 0, .bool pr, .bool so, .bool ba, .int .i64 al, .int .i64 de] 58 ∧ Bk X (w.heap.size + 5) #[.pointer (some ⟨w.heap.size + 4, 0, none⟩)] 56 ∧ Only (fun b => b = w.heap.size + 4) W X)
      case first =>
        have hpr : pr = true ∨ pr = false := by cases pr <;> simp
        rcases hcase with ⟨z1, z2, z3⟩ | ⟨z1, z2, z3⟩ | ⟨z1, z2, z3⟩ | ⟨z1, z2, z3⟩
        all_goals
          rcases hpr with rfl | rfl
          all_goals
            first | (have hv : ok = true := by rw [Hok.out, z1, z2]; rfl) | (have hv : ok = false := by rw [Hok.out, z1, z2]; rfl)
            subst hv
            clear Hok
            refine wp_region_tail 19 (by kernel_rfl) (by kernel_rfl) ?_
            simp only [List.take_succ_cons, List.take_zero, List.drop_succ_cons, List.drop_zero]
            repeat (go_big_quiet_step (fail))
            refine wpQuiet_nil ?_
            go_wp2_with fail
            go_meet
            exact ⟨(HX.out.1.set_ 0 _).drew, (HX.out.2.2.1.far (by simp) _).drew, (HX.out.2.1.set_ (p := ⟨w.heap.size + 4, 0, none⟩) (.inl rfl) _).drew⟩
      case rest =>
        obtain ⟨X, hX9⟩ : ∃ X, X = wc := ⟨_, rfl⟩
        rw [← hX9] at hcut ⊢
        clear hX9 c16 cA fA c19 c20 lj hvc HX Hok
        obtain ⟨bj, bv, ho⟩ := hcut
        go_wp2_with fail
        have c15 : X.cell? ⟨w.heap.size + 4, 15, none⟩ = some (.int .i64 0) := bj.cell 15
        have c19 : X.cell? ⟨w.heap.size + 4, 19, none⟩ = some (.int .i64 al) := bj.cell 19
        have c20 : X.cell? ⟨w.heap.size + 4, 20, none⟩ = some (.int .i64 de) := bj.cell 20
        have f15 := bj.free 15
        have lj := bj.lt
        have cv : X.cell? ⟨w.heap.size + 5, 0, none⟩ = some (.pointer (some ⟨w.heap.size + 4, 0, none⟩)) := bv.cell 0
        have HJ := Lib.hid (And.intro bj (And.intro bv ho))
        clear bj bv ho
        refine wp_region_tail 5 (by kernel_rfl) (by kernel_rfl) ?_
        simp only [List.take_succ_cons, List.take_zero, List.drop_succ_cons, List.drop_zero]
        repeat (go_big_quiet_step (fail))
        refine wpQuiet_nil ?_
        go_upto_region 13 with (fail)
        refine forget (fun X => Bk X (w.heap.size + 4) #[.bool ok, .bool tg, .bool si, .int .i64 lim, .int .i64 price, .int .i64 fn, .int .i64 fd, .int .i64 tn, .int .i64 td, .int .i64 cn, .int .i64 cd, .int .i64 sn, .int .i64 sd, .int .i64 rn, .int .i64 rd, .int .i64 al, .bool pr, .bool so, .bool ba, .int .i64 al, .int .i64 de] 58 ∧ Bk X (w.heap.size + 5) #[.pointer (some ⟨w.heap.size + 4, 0, none⟩)] 56 ∧ Only (fun b => b = w.heap.size + 4) W X) ⟨(HJ.out.1.set_ 15 _).drew, (HJ.out.2.1.far (by simp) _).drew, (HJ.out.2.2.set_ (p := ⟨w.heap.size + 4, 15, none⟩) (.inl rfl) _).drew⟩ ?_
        clear c15 c19 c20 f15 lj cv HJ
        rintro X ⟨bj, bv, ho⟩
        have c15 : X.cell? ⟨w.heap.size + 4, 15, none⟩ = some (.int .i64 al) := bj.cell 15
        have c19 : X.cell? ⟨w.heap.size + 4, 19, none⟩ = some (.int .i64 al) := bj.cell 19
        have c20 : X.cell? ⟨w.heap.size + 4, 20, none⟩ = some (.int .i64 de) := bj.cell 20
        have f15 := bj.free 15
        have lj := bj.lt
        have cv : X.cell? ⟨w.heap.size + 5, 0, none⟩ = some (.pointer (some ⟨w.heap.size + 4, 0, none⟩)) := bv.cell 0
        have HJ := Lib.hid (And.intro bj (And.intro bv ho))
        clear bj bv ho
        by_cases hde : de < 0
        · have hyb3 : yb = al := by rw [Hyb.out, if_neg (by omega)]
          have Hyb3 := Lib.hid hyb3
          clear hyb3 Hyb hcase
          go_upto_region 15 with (fail)
          have hres := (HD.out.1.res.only HJ.out.2.2 (by omega))
          have HRS := Lib.hid hres
          clear hres
          go_wp2_with (first | (refine list_load_at (o := ⟨some 104, _, _, _, _, _⟩) rfl _ _ rfl (w.heap.size + 4) 0 rfl (decV ok tg si lim price fn fd tn td cn cd sn sd rn rd al) _ (fun j u h => by rw [Nat.zero_add, HJ.out.1.cell]; exact dec_pre h) Try.underlying37 rfl info_dec ?_) | (refine list_store_bk (o := ⟨none, .store 37 _ _, _, _, _, _⟩) rfl _ _ _ rfl (w.heap.size + 2) (decV ok tg si lim price fn fd tn td cn cd sn sd rn rd al) rfl rfl HRS.out info_dec rfl one_dec ?_; intro X2 hb2 ho2))
          refine bodyPost_ret (v := .agg (decV ok tg si lim price fn fd tn td cn cd sn sd rn rd al)) (results_cell_row rfl _ _ (w.heap.size + 2) 37 (decV ok tg si lim price fn fd tn td cn cd sn sd rn rd al) (0, 0) _ rfl hb2 Try.underlying37 rfl info_dec) rfl ⟨by rw [HS.out, HR.out, Hyb3.out], ?_⟩
          exact HD.out.1.low.trans ((HJ.out.2.2.to_below (B := w.heap.size) (fun b hb => by omega) (by omega)).trans (ho2.to_below (fun b hb => by omega) (by have := HJ.out.2.2.size; omega)))
        · have hde' : 0 ≤ de := by omega
          have hyb3 : yb = de := by rw [Hyb.out, if_pos hde']
          have Hyb3 := Lib.hid hyb3
          clear hyb3 Hyb hcase hde
          go_upto_region 14 with (fail)
          refine wp_region_tail 5 (by kernel_rfl) (by kernel_rfl) ?_
          simp only [List.take_succ_cons, List.take_zero, List.drop_succ_cons, List.drop_zero]
          repeat (go_big_quiet_step (fail))
          refine wpQuiet_nil ?_
          go_upto_region 15 with (fail)
          refine forget (fun X => Bk X (w.heap.size + 4) #[.bool ok, .bool tg, .bool si, .int .i64 lim, .int .i64 price, .int .i64 fn, .int .i64 fd, .int .i64 tn, .int .i64 td, .int .i64 cn, .int .i64 cd, .int .i64 sn, .int .i64 sd, .int .i64 rn, .int .i64 rd, .int .i64 de, .bool pr, .bool so, .bool ba, .int .i64 al, .int .i64 de] 58 ∧ Bk X (w.heap.size + 5) #[.pointer (some ⟨w.heap.size + 4, 0, none⟩)] 56 ∧ Only (fun b => b = w.heap.size + 4) W X) ⟨(HJ.out.1.set_ 15 _).drew, (HJ.out.2.1.far (by simp) _).drew, (HJ.out.2.2.set_ (p := ⟨w.heap.size + 4, 15, none⟩) (.inl rfl) _).drew⟩ ?_
          clear c15 c19 c20 f15 lj cv HJ
          rintro X ⟨bj, bv, ho⟩
          have c15 : X.cell? ⟨w.heap.size + 4, 15, none⟩ = some (.int .i64 de) := bj.cell 15
          have c19 : X.cell? ⟨w.heap.size + 4, 19, none⟩ = some (.int .i64 al) := bj.cell 19
          have c20 : X.cell? ⟨w.heap.size + 4, 20, none⟩ = some (.int .i64 de) := bj.cell 20
          have f15 := bj.free 15
          have lj := bj.lt
          have cv : X.cell? ⟨w.heap.size + 5, 0, none⟩ = some (.pointer (some ⟨w.heap.size + 4, 0, none⟩)) := bv.cell 0
          have HJ := Lib.hid (And.intro bj (And.intro bv ho))
          clear bj bv ho
          go_upto_region 15 with (fail)
          have hres := (HD.out.1.res.only HJ.out.2.2 (by omega))
          have HRS := Lib.hid hres
          clear hres
          go_wp2_with (first | (refine list_load_at (o := ⟨some 104, _, _, _, _, _⟩) rfl _ _ rfl (w.heap.size + 4) 0 rfl (decV ok tg si lim price fn fd tn td cn cd sn sd rn rd de) _ (fun j u h => by rw [Nat.zero_add, HJ.out.1.cell]; exact dec_pre h) Try.underlying37 rfl info_dec ?_) | (refine list_store_bk (o := ⟨none, .store 37 _ _, _, _, _, _⟩) rfl _ _ _ rfl (w.heap.size + 2) (decV ok tg si lim price fn fd tn td cn cd sn sd rn rd de) rfl rfl HRS.out info_dec rfl one_dec ?_; intro X2 hb2 ho2))
          refine bodyPost_ret (v := .agg (decV ok tg si lim price fn fd tn td cn cd sn sd rn rd de)) (results_cell_row rfl _ _ (w.heap.size + 2) 37 (decV ok tg si lim price fn fd tn td cn cd sn sd rn rd de) (0, 0) _ rfl hb2 Try.underlying37 rfl info_dec) rfl ⟨by rw [HS.out, HR.out, Hyb3.out], ?_⟩
          exact HD.out.1.low.trans ((HJ.out.2.2.to_below (B := w.heap.size) (fun b hb => by omega) (by omega)).trans (ho2.to_below (fun b hb => by omega) (by have := HJ.out.2.2.size; omega)))
end Go.Proofs.Ytmklcfmdcfbpeaa
