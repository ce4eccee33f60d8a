/- Layer 34 (deal): Refund, the walk. -/
import Derived.Test.YtggmihnhdojepaaDealN
namespace Go.Proofs.Ytggmihnhdojepaa
open Go.RowKit
set_option linter.unusedVariables false
set_option linter.unusedSimpArgs false
attribute [local go_sem] ext_cell ext_frozen lt_ext ext_drew

section
variable {A : Option Addr} {ls : List Ln} {cap n : Nat} {total : Int} {A2 : Option Addr} {ms : List Mn} {cap2 n2 : Nat} {w : World} {B : Nat}
set_option maxRecDepth 100000 in
set_option maxHeartbeats 4000000 in
theorem refund_any (amount : Int) (h : Elems tLine w B A ls) (h2 : Elems tMean w B A2 ms) (hB : B ≤ w.heap.size) (hn : ls.length = n) (hl : n ≤ 60) (ht : fits total) (hn2 : ms.length = n2) (hl2 : n2 ≤ 9223372036854775807) (hfa : fits amount) :
    Calls Try.prog 16 #[.agg #[.slice A n cap, .int .i64 total], .int .i64 amount, .slice A2 n2 cap2] w (Booked w (refundL ls total amount ms) (refundE ls total amount ms)) := by
  obtain ⟨tv, htv⟩ : ∃ v, totV ms = v := ⟨_, rfl⟩
  obtain ⟨tb, htb⟩ : ∃ v, totB ms = v := ⟨_, rfl⟩
  obtain ⟨r, hr⟩ : ∃ v, rightB ls total = v := ⟨_, rfl⟩
  have Htot := Lib.hid (total_in (cap2 := cap2) h2 hB hn2 hl2 tv tb htv htb)
  have Hrgt := Lib.hid (right_in (cap := cap) h hB hn hl ht r hr)
  obtain ⟨E, hE⟩ : ∃ v, refundE ls total amount ms = v := ⟨_, rfl⟩
  have hse := hE
  unfold refundE at hse
  rw [hr, htb] at hse
  have hcase : (r = false ∧ E = 1) ∨ (r = true ∧ amount < 0 ∧ E = 1) ∨ (r = true ∧ 0 ≤ amount ∧ tb = false ∧ E = 1) ∨ (r = true ∧ 0 ≤ amount ∧ tb = true ∧ total < amount ∧ E = 19) ∨ (r = true ∧ 0 ≤ amount ∧ tb = true ∧ amount ≤ total ∧ sumM ms ≠ amount ∧ E = 19) ∨ (r = true ∧ 0 ≤ amount ∧ tb = true ∧ amount ≤ total ∧ sumM ms = amount ∧ E = 0) := by
    cases r
    · left; exact ⟨rfl, by rw [← hse, if_neg (by simp)]⟩
    · right
      by_cases e1 : amount < 0
      · left; exact ⟨rfl, e1, by rw [← hse, if_neg (by omega)]⟩
      · right
        cases tb
        · left; exact ⟨rfl, by omega, rfl, by rw [← hse, if_neg (by simp)]⟩
        · right
          rw [if_pos ⟨rfl, by omega, rfl⟩] at hse
          by_cases e2 : total < amount
          · left; exact ⟨rfl, by omega, rfl, e2, by rw [← hse, if_neg (by omega)]⟩
          · right
            by_cases e3 : sumM ms = amount
            · right; exact ⟨rfl, by omega, rfl, by omega, e3, by rw [← hse, if_pos ⟨by omega, e3⟩]⟩
            · left; exact ⟨rfl, by omega, rfl, by omega, e3, by rw [← hse, if_neg (fun h => e3 h.2)]⟩
  have htm : tb = true → tv = sumM ms := fun h => by
    rw [← htv]; unfold totV; rw [if_pos (htb.trans h)]
  have Htm := Lib.hid htm
  have HLn : Hid (E ≠ 0 → refundL ls total amount ms = []) := Lib.hid fun h => by unfold refundL; rw [hE, if_neg h]
  have HL1 : Hid (E = 0 → refundL ls total amount ms = payL ms 1 ++ (if total = 0 then [] else backL amount (partOf 1 ls) (partOf 2 ls) (partOf 3 ls))) := Lib.hid fun h => by unfold refundL; rw [hE, if_pos h]
  have HE := Lib.hid (And.intro h (And.intro h2 (And.intro htb hr)))
  unfold fits at hfa
  obtain ⟨g1, g2⟩ := hfa
  rw [hE]
  clear htv htb hr hse htm h h2 hE
  rcases hcase with ⟨rfl, rfl⟩ | ⟨rfl, q1, rfl⟩ | ⟨rfl, q1, rfl, rfl⟩ | ⟨rfl, q1, rfl, q2, rfl⟩ | ⟨rfl, q1, rfl, q2, q3, rfl⟩ | ⟨rfl, q1, rfl, q2, q3, rfl⟩
  · rw [HLn.out (by decide)]
    clear HLn HL1 HE
    go_enter Try.func16, Try.ntmps16
    go_wp2_with (first
      | (go_at_call 26; refine Calls.mono (Htot.out _ ?bel) ?_; (case bel => (repeat (first | with_reducible exact Below.refl _ _ | with_reducible assumption | with_reducible refine Below.alloc0 ?_ _ | with_reducible refine Below.ext0 ?_ _ | with_reducible refine Below.drew ?_ | with_reducible refine below_drewN ?_ _ | (with_reducible refine Below.setCell (hp := ?hp) ?_ _; case hp => (first | (simp; done) | (simp; omega)))))); rintro e w' ⟨rfl, hb⟩; (first | (obtain ⟨u, rfl⟩ := ext_more hb; clear hb) | (obtain ⟨u, rfl⟩ := ext_more_alloc hb; clear hb) | (obtain ⟨u, rfl⟩ := ext_of hb; clear hb)))
      | (go_at_call 27; refine Calls.mono (Hrgt.out _ ?bel) ?_; (case bel => (repeat (first | with_reducible exact Below.refl _ _ | with_reducible assumption | with_reducible refine Below.alloc0 ?_ _ | with_reducible refine Below.ext0 ?_ _ | with_reducible refine Below.drew ?_ | with_reducible refine below_drewN ?_ _ | (with_reducible refine Below.setCell (hp := ?hp) ?_ _; case hp => (first | (simp; done) | (simp; omega)))))); rintro e w' ⟨rfl, hb⟩; (first | (obtain ⟨u, rfl⟩ := ext_more hb; clear hb) | (obtain ⟨u, rfl⟩ := ext_more_alloc hb; clear hb) | (obtain ⟨u, rfl⟩ := ext_of hb; clear hb))))
    all_goals exact bodyPost_ret (v := .tuple #[.agg #[.int .i64 0, .slice none 0 0], .int .i64 1]) (by simp [results, Try.results16, go_sem]) rfl (booked_none (by (repeat (first | with_reducible exact Below.refl _ _ | with_reducible assumption | with_reducible refine Below.alloc0 ?_ _ | with_reducible refine Below.ext0 ?_ _ | with_reducible refine Below.drew ?_ | with_reducible refine below_drewN ?_ _ | (with_reducible refine Below.setCell (hp := ?hp) ?_ _; case hp => (first | (simp; done) | (simp; omega)))))) rfl)
  · rw [HLn.out (by decide)]
    clear HLn HL1 HE
    go_enter Try.func16, Try.ntmps16
    go_wp2_with (first
      | (go_at_call 26; refine Calls.mono (Htot.out _ ?bel) ?_; (case bel => (repeat (first | with_reducible exact Below.refl _ _ | with_reducible assumption | with_reducible refine Below.alloc0 ?_ _ | with_reducible refine Below.ext0 ?_ _ | with_reducible refine Below.drew ?_ | with_reducible refine below_drewN ?_ _ | (with_reducible refine Below.setCell (hp := ?hp) ?_ _; case hp => (first | (simp; done) | (simp; omega)))))); rintro e w' ⟨rfl, hb⟩; (first | (obtain ⟨u, rfl⟩ := ext_more hb; clear hb) | (obtain ⟨u, rfl⟩ := ext_more_alloc hb; clear hb) | (obtain ⟨u, rfl⟩ := ext_of hb; clear hb)))
      | (go_at_call 27; refine Calls.mono (Hrgt.out _ ?bel) ?_; (case bel => (repeat (first | with_reducible exact Below.refl _ _ | with_reducible assumption | with_reducible refine Below.alloc0 ?_ _ | with_reducible refine Below.ext0 ?_ _ | with_reducible refine Below.drew ?_ | with_reducible refine below_drewN ?_ _ | (with_reducible refine Below.setCell (hp := ?hp) ?_ _; case hp => (first | (simp; done) | (simp; omega)))))); rintro e w' ⟨rfl, hb⟩; (first | (obtain ⟨u, rfl⟩ := ext_more hb; clear hb) | (obtain ⟨u, rfl⟩ := ext_more_alloc hb; clear hb) | (obtain ⟨u, rfl⟩ := ext_of hb; clear hb))))
    all_goals exact bodyPost_ret (v := .tuple #[.agg #[.int .i64 0, .slice none 0 0], .int .i64 1]) (by simp [results, Try.results16, go_sem]) rfl (booked_none (by (repeat (first | with_reducible exact Below.refl _ _ | with_reducible assumption | with_reducible refine Below.alloc0 ?_ _ | with_reducible refine Below.ext0 ?_ _ | with_reducible refine Below.drew ?_ | with_reducible refine below_drewN ?_ _ | (with_reducible refine Below.setCell (hp := ?hp) ?_ _; case hp => (first | (simp; done) | (simp; omega)))))) rfl)
  · rw [HLn.out (by decide)]
    clear HLn HL1 HE
    go_enter Try.func16, Try.ntmps16
    go_wp2_with (first
      | (go_at_call 26; refine Calls.mono (Htot.out _ ?bel) ?_; (case bel => (repeat (first | with_reducible exact Below.refl _ _ | with_reducible assumption | with_reducible refine Below.alloc0 ?_ _ | with_reducible refine Below.ext0 ?_ _ | with_reducible refine Below.drew ?_ | with_reducible refine below_drewN ?_ _ | (with_reducible refine Below.setCell (hp := ?hp) ?_ _; case hp => (first | (simp; done) | (simp; omega)))))); rintro e w' ⟨rfl, hb⟩; (first | (obtain ⟨u, rfl⟩ := ext_more hb; clear hb) | (obtain ⟨u, rfl⟩ := ext_more_alloc hb; clear hb) | (obtain ⟨u, rfl⟩ := ext_of hb; clear hb)))
      | (go_at_call 27; refine Calls.mono (Hrgt.out _ ?bel) ?_; (case bel => (repeat (first | with_reducible exact Below.refl _ _ | with_reducible assumption | with_reducible refine Below.alloc0 ?_ _ | with_reducible refine Below.ext0 ?_ _ | with_reducible refine Below.drew ?_ | with_reducible refine below_drewN ?_ _ | (with_reducible refine Below.setCell (hp := ?hp) ?_ _; case hp => (first | (simp; done) | (simp; omega)))))); rintro e w' ⟨rfl, hb⟩; (first | (obtain ⟨u, rfl⟩ := ext_more hb; clear hb) | (obtain ⟨u, rfl⟩ := ext_more_alloc hb; clear hb) | (obtain ⟨u, rfl⟩ := ext_of hb; clear hb))))
    all_goals exact bodyPost_ret (v := .tuple #[.agg #[.int .i64 0, .slice none 0 0], .int .i64 1]) (by simp [results, Try.results16, go_sem]) rfl (booked_none (by (repeat (first | with_reducible exact Below.refl _ _ | with_reducible assumption | with_reducible refine Below.alloc0 ?_ _ | with_reducible refine Below.ext0 ?_ _ | with_reducible refine Below.drew ?_ | with_reducible refine below_drewN ?_ _ | (with_reducible refine Below.setCell (hp := ?hp) ?_ _; case hp => (first | (simp; done) | (simp; omega)))))) rfl)
  · rw [HLn.out (by decide)]
    clear HLn HL1 HE
    go_enter Try.func16, Try.ntmps16
    go_wp2_with (first
      | (go_at_call 26; refine Calls.mono (Htot.out _ ?bel) ?_; (case bel => (repeat (first | with_reducible exact Below.refl _ _ | with_reducible assumption | with_reducible refine Below.alloc0 ?_ _ | with_reducible refine Below.ext0 ?_ _ | with_reducible refine Below.drew ?_ | with_reducible refine below_drewN ?_ _ | (with_reducible refine Below.setCell (hp := ?hp) ?_ _; case hp => (first | (simp; done) | (simp; omega)))))); rintro e w' ⟨rfl, hb⟩; (first | (obtain ⟨u, rfl⟩ := ext_more hb; clear hb) | (obtain ⟨u, rfl⟩ := ext_more_alloc hb; clear hb) | (obtain ⟨u, rfl⟩ := ext_of hb; clear hb)))
      | (go_at_call 27; refine Calls.mono (Hrgt.out _ ?bel) ?_; (case bel => (repeat (first | with_reducible exact Below.refl _ _ | with_reducible assumption | with_reducible refine Below.alloc0 ?_ _ | with_reducible refine Below.ext0 ?_ _ | with_reducible refine Below.drew ?_ | with_reducible refine below_drewN ?_ _ | (with_reducible refine Below.setCell (hp := ?hp) ?_ _; case hp => (first | (simp; done) | (simp; omega)))))); rintro e w' ⟨rfl, hb⟩; (first | (obtain ⟨u, rfl⟩ := ext_more hb; clear hb) | (obtain ⟨u, rfl⟩ := ext_more_alloc hb; clear hb) | (obtain ⟨u, rfl⟩ := ext_of hb; clear hb))))
    all_goals exact bodyPost_ret (v := .tuple #[.agg #[.int .i64 0, .slice none 0 0], .int .i64 19]) (by simp [results, Try.results16, go_sem]) rfl (booked_none (by (repeat (first | with_reducible exact Below.refl _ _ | with_reducible assumption | with_reducible refine Below.alloc0 ?_ _ | with_reducible refine Below.ext0 ?_ _ | with_reducible refine Below.drew ?_ | with_reducible refine below_drewN ?_ _ | (with_reducible refine Below.setCell (hp := ?hp) ?_ _; case hp => (first | (simp; done) | (simp; omega)))))) rfl)
  · rw [HLn.out (by decide)]
    have q4 : tv ≠ amount := fun h => q3 ((Htm.out rfl).symm.trans h)
    have q5 : (tv != amount) = true := by simpa using q4
    clear q3
    clear HLn HL1 HE
    go_enter Try.func16, Try.ntmps16
    go_wp2_with (first
      | (go_at_call 26; refine Calls.mono (Htot.out _ ?bel) ?_; (case bel => (repeat (first | with_reducible exact Below.refl _ _ | with_reducible assumption | with_reducible refine Below.alloc0 ?_ _ | with_reducible refine Below.ext0 ?_ _ | with_reducible refine Below.drew ?_ | with_reducible refine below_drewN ?_ _ | (with_reducible refine Below.setCell (hp := ?hp) ?_ _; case hp => (first | (simp; done) | (simp; omega)))))); rintro e w' ⟨rfl, hb⟩; (first | (obtain ⟨u, rfl⟩ := ext_more hb; clear hb) | (obtain ⟨u, rfl⟩ := ext_more_alloc hb; clear hb) | (obtain ⟨u, rfl⟩ := ext_of hb; clear hb)))
      | (go_at_call 27; refine Calls.mono (Hrgt.out _ ?bel) ?_; (case bel => (repeat (first | with_reducible exact Below.refl _ _ | with_reducible assumption | with_reducible refine Below.alloc0 ?_ _ | with_reducible refine Below.ext0 ?_ _ | with_reducible refine Below.drew ?_ | with_reducible refine below_drewN ?_ _ | (with_reducible refine Below.setCell (hp := ?hp) ?_ _; case hp => (first | (simp; done) | (simp; omega)))))); rintro e w' ⟨rfl, hb⟩; (first | (obtain ⟨u, rfl⟩ := ext_more hb; clear hb) | (obtain ⟨u, rfl⟩ := ext_more_alloc hb; clear hb) | (obtain ⟨u, rfl⟩ := ext_of hb; clear hb))))
    all_goals exact bodyPost_ret (v := .tuple #[.agg #[.int .i64 0, .slice none 0 0], .int .i64 19]) (by simp [results, Try.results16, go_sem]) rfl (booked_none (by (repeat (first | with_reducible exact Below.refl _ _ | with_reducible assumption | with_reducible refine Below.alloc0 ?_ _ | with_reducible refine Below.ext0 ?_ _ | with_reducible refine Below.drew ?_ | with_reducible refine below_drewN ?_ _ | (with_reducible refine Below.setCell (hp := ?hp) ?_ _; case hp => (first | (simp; done) | (simp; omega)))))) rfl)
  · rw [HL1.out rfl]
    obtain rfl : tv = amount := (Htm.out rfl).trans q3
    obtain ⟨hm12, hok⟩ := totB_out HE.out.2.2.1
    have Hok := Lib.hid (okM_in hok)
    obtain ⟨hall, hsum, ht0, ht1⟩ := right_out HE.out.2.2.2
    obtain ⟨S1, hS1⟩ : ∃ v, partOf 1 ls = v := ⟨_, rfl⟩
    obtain ⟨S2, hS2⟩ : ∃ v, partOf 2 ls = v := ⟨_, rfl⟩
    obtain ⟨S3, hS3⟩ : ∃ v, partOf 3 ls = v := ⟨_, rfl⟩
    have Hsum := Lib.hid (sums_in (cap := cap) (total := total) HE.out.1 hB hn hl hall S1 S2 S3 hS1 hS2 hS3)
    have hP1 := partOf_bd 1 ls hall
    have hP2 := partOf_bd 2 ls hall
    have hP3 := partOf_bd 3 ls hall
    have hPs := parts_sum ls hall
    rw [hsum] at hP1 hP2 hP3 hPs
    rw [hS1] at hP1 hPs ⊢
    rw [hS2] at hP2 hPs ⊢
    rw [hS3] at hP3 hPs ⊢
    obtain ⟨qZ, hqZ⟩ : ∃ q, (if total = 0 then [] else backL tv S1 S2 S3) = q := ⟨_, rfl⟩
    rw [hqZ]
    have HqZ := Lib.hid hqZ
    clear hqZ
    have q5 : (tv != tv) = false := by simp
    have q6 : (tv == tv) = true := by simp
    clear HLn HL1 Htm q3 hok hall hsum hS1 hS2 hS3
    go_enter Try.func16, Try.ntmps16
    go_upto_region 7 with (first
      | (go_at_call 26; refine Calls.mono (Htot.out _ ?bel) ?_; (case bel => (repeat (first | with_reducible exact Below.refl _ _ | with_reducible assumption | with_reducible refine Below.alloc0 ?_ _ | with_reducible refine Below.ext0 ?_ _ | with_reducible refine Below.drew ?_ | with_reducible refine below_drewN ?_ _ | (with_reducible refine Below.setCell (hp := ?hp) ?_ _; case hp => (first | (simp; done) | (simp; omega)))))); rintro e w' ⟨rfl, hb⟩; (first | (obtain ⟨u, rfl⟩ := ext_more hb; clear hb) | (obtain ⟨u, rfl⟩ := ext_more_alloc hb; clear hb) | (obtain ⟨u, rfl⟩ := ext_of hb; clear hb)))
      | (go_at_call 27; refine Calls.mono (Hrgt.out _ ?bel) ?_; (case bel => (repeat (first | with_reducible exact Below.refl _ _ | with_reducible assumption | with_reducible refine Below.alloc0 ?_ _ | with_reducible refine Below.ext0 ?_ _ | with_reducible refine Below.drew ?_ | with_reducible refine below_drewN ?_ _ | (with_reducible refine Below.setCell (hp := ?hp) ?_ _; case hp => (first | (simp; done) | (simp; omega)))))); rintro e w' ⟨rfl, hb⟩; (first | (obtain ⟨u, rfl⟩ := ext_more hb; clear hb) | (obtain ⟨u, rfl⟩ := ext_more_alloc hb; clear hb) | (obtain ⟨u, rfl⟩ := ext_of hb; clear hb)))
      | (go_at_call 29; refine Calls.mono (Hsum.out _ ?bel) ?_; (case bel => (repeat (first | with_reducible exact Below.refl _ _ | with_reducible assumption | with_reducible refine Below.alloc0 ?_ _ | with_reducible refine Below.ext0 ?_ _ | with_reducible refine Below.drew ?_ | with_reducible refine below_drewN ?_ _ | (with_reducible refine Below.setCell (hp := ?hp) ?_ _; case hp => (first | (simp; done) | (simp; omega)))))); rintro e w' ⟨rfl, hb⟩; (first | (obtain ⟨u, rfl⟩ := ext_more hb; clear hb) | (obtain ⟨u, rfl⟩ := ext_more_alloc hb; clear hb) | (obtain ⟨u, rfl⟩ := ext_of hb; clear hb))))
    refine forget (fun X => Below w.heap.size w X ∧ Bk X (w.heap.size + 1) #[.int .i64 0, .slice none 0 0] 34 ∧ BkIs X (ext ((w.alloc (.cells #[.slice A n cap, .int .i64 total] 24)).alloc (.cells #[.int .i64 0, .slice none 0 0] 34)) u).heap.size ((ext ((w.alloc (.cells #[.slice A n cap, .int .i64 total] 24)).alloc (.cells #[.int .i64 0, .slice none 0 0] 34)) u).heap.size + 2) [] (.slice none 0 0) ∧ Bk X ((ext ((w.alloc (.cells #[.slice A n cap, .int .i64 total] 24)).alloc (.cells #[.int .i64 0, .slice none 0 0] 34)) u).heap.size + 1) #[.int .i64 S1, .int .i64 S2, .int .i64 S3] 70 ∧ w.heap.size + 1 < (ext ((w.alloc (.cells #[.slice A n cap, .int .i64 total] 24)).alloc (.cells #[.int .i64 0, .slice none 0 0] 34)) u).heap.size ∧ (ext ((w.alloc (.cells #[.slice A n cap, .int .i64 total] 24)).alloc (.cells #[.int .i64 0, .slice none 0 0] 34)) u).heap.size + 2 ≤ X.heap.size) ⟨by (repeat (first | with_reducible exact Below.refl _ _ | with_reducible assumption | with_reducible refine Below.alloc0 ?_ _ | with_reducible refine Below.ext0 ?_ _ | with_reducible refine Below.drew ?_ | with_reducible refine below_drewN ?_ _ | (with_reducible refine Below.setCell (hp := ?hp) ?_ _; case hp => (first | (simp; done) | (simp; omega))))), (((bk_new_at _ _ _ _ (by simp)).ext _).alloc _).alloc _, ⟨(Bk.new _ _ _).alloc _, OwnL.nil⟩, bk_new_at _ _ _ _ (by simp), by have := size_ext ((w.alloc (.cells #[.slice A n cap, .int .i64 total] 24)).alloc (.cells #[.int .i64 0, .slice none 0 0] 34)) u; simp at this; omega, by simp⟩ ?_
    generalize (ext ((w.alloc (.cells #[.slice A n cap, .int .i64 total] 24)).alloc (.cells #[.int .i64 0, .slice none 0 0] 34)) u).heap.size = bb at *
    rintro X ⟨hw, hr, hb, hs, hlt, hX⟩
    have HX := Lib.hid (And.intro hw (And.intro hr hs))
    clear Htot Hrgt Hsum
    go_wp2_with fail
    refine (pay_any bb (bb + 2) (.slice none 0 0) [] A2 ms cap2 n2 1 X B hb (by omega) hX (HE.out.2.1.keep (hw.mono hB) (Nat.le_refl _)) (by omega) hn2 (by simp; omega) Hok.out (.inl rfl)).mono ?_
    rintro e X1 ⟨rfl, v2, z1, z2, z3⟩
    have r2 := HX.out.2.1.only z2 (by simp [Value.ownBlock]; omega)
    have s2 := HX.out.2.2.only z2 (by simp [Value.ownBlock])
    have hw2 : Below w.heap.size w X1 := HX.out.1.trans (z2.to_below (fun g hg => by simp [Value.ownBlock] at hg; omega) HX.out.1.size)
    rw [List.nil_append] at z1
    have hz2 := z2.size
    have hzw := hw2.size
    have HA := Lib.hid (And.intro hw2 (And.intro r2 (And.intro z1 s2)))
    have ls2 := s2.lt
    clear hw hr hb hs HX z1 z2 z3 hw2 r2 s2
    obtain ⟨qA, hq1⟩ : ∃ q, payL ms 1 = q := ⟨_, rfl⟩
    have hq1l : qA.length ≤ 12 := by
      rw [← hq1]
      have := payL_len ms 1 ms.length
      rw [List.take_length] at this
      omega
    rw [hq1] at HA
    have Hq1 := Lib.hid hq1
    clear hq1
    have gn : goodW tv := ⟨q1, by omega⟩
    by_cases h0 : total = 0
    · obtain rfl : S1 = 0 := by omega
      obtain rfl : S2 = 0 := by omega
      obtain rfl : S3 = 0 := by omega
      go_wp2_with fail
      refine (split_none tv (bb + 1) _ 3 _ HA.out.2.2.2 gn).mono ?_
      rintro e X4 ⟨rfl, y2⟩
      have HqZ2 : Hid (qZ = []) := Lib.hid (by rw [← HqZ.out, if_pos h0])
      have hs4 := y2.size
      have z1 : BkIs X4 bb (bb + 2) qA v2 := ⟨HA.out.2.2.1.1.below y2, HA.out.2.2.1.2.below y2 (by omega)⟩
      have r4 := HA.out.2.1.below y2
      have hw4 := HA.out.1.trans (y2.mono hzw)
      obtain ⟨A4, c4, rfl, hc4, hm4⟩ := z1.2.form
      obtain ⟨q3, hq3⟩ : ∃ q, qA = q := ⟨_, rfl⟩
      rw [hq3] at z1 hc4
      have Hq4 := Lib.hid hq3
      clear hq3
      have cb := z1.1.cell
      have lb := z1.1.lt
      have fr := r4.free
      have cr := r4.cell
      have lr := r4.lt
      have HZ := Lib.hid (And.intro z1 (And.intro hw4 (And.intro hc4 hm4)))
      clear HA y2 z1 hc4 hm4 r4 hw4
      go_wp2_with fail
      have ho9 : Only (fun g => g = w.heap.size + 1) X4 ((X4.setCell ⟨w.heap.size + 1, 0, none⟩ (.int .i64 0)).setCell ⟨w.heap.size + 1, 1, none⟩ (.slice A4 q3.length c4)) := ((Only.refl (fun g => g = w.heap.size + 1) X4).set_ (p := ⟨w.heap.size + 1, 0, none⟩) (.inl rfl) _).set_ (p := ⟨w.heap.size + 1, 1, none⟩) (.inl rfl) _
      have hE9 := (HZ.out.1.2.only ho9 (fun g hg => by omega) (by omega) (fun g hg h => by have := HZ.out.1.2.lt g hg; omega)).elems (B2 := ((X4.setCell ⟨w.heap.size + 1, 0, none⟩ (.int .i64 0)).setCell ⟨w.heap.size + 1, 1, none⟩ (.slice A4 q3.length c4)).heap.size) (by omega) (Nat.le_refl _)
      have hB9 := HZ.out.2.1.trans (ho9.to_below (fun g hg => by omega) (HZ.out.2.1.size))
      rw [Hq1.out, HqZ2.out, List.append_nil, Hq4.out]
      exact bodyPost_ret (v := .tuple #[.agg #[.int .i64 0, .slice A4 q3.length c4], .int .i64 0]) (by simp [results, Try.results16, go_sem, cr, fr, lr]) rfl (booked_some rfl hE9 HZ.out.2.2.1 HZ.out.2.2.2 hB9)
    · go_wp2_with fail
      refine (split_any tv S1 S2 S3 (bb + 1) _ 3 _ HA.out.2.2.2 gn ⟨hP1.1, by omega⟩ ⟨hP2.1, by omega⟩ ⟨hP3.1, by omega⟩ (by omega) (by omega)).mono ?_
      rintro e X2 ⟨ob, rfl, y1, y2⟩
      have hsl := split_le gn (show goodW S1 from ⟨hP1.1, by omega⟩) (show goodW S2 from ⟨hP2.1, by omega⟩) (show goodW S3 from ⟨hP3.1, by omega⟩) (by omega)
      have hbl : backL tv S1 S2 S3 = partsL (-(splitP tv S1 S2 S3).1) (-(splitP tv S1 S2 S3).2.1) (-(splitP tv S1 S2 S3).2.2) := rfl
      obtain ⟨P1, P2, P3, hP⟩ : ∃ p1 p2 p3, splitP tv S1 S2 S3 = (p1, p2, p3) := ⟨_, _, _, rfl⟩
      rw [hP] at hsl hbl y1
      obtain ⟨⟨u1, u2⟩, ⟨u3, u4⟩, u5, u6⟩ := hsl
      simp only at u1 u2 u3 u4 u5 u6 hbl
      have c2 := y1.cell
      have l2 := y1.lt
      have hs4 := y2.size
      have H2 : Hid (Below w.heap.size w X2 ∧ Bk X2 (w.heap.size + 1) #[.int .i64 0, .slice none 0 0] 34 ∧ BkIs X2 bb (bb + 2) qA v2) := Lib.hid ⟨HA.out.1.trans (y2.mono hzw), HA.out.2.1.below y2, HA.out.2.2.1.1.below y2, HA.out.2.2.1.2.below y2 (by omega)⟩
      have Hbl : Hid (qZ = partsL (-P1) (-P2) (-P3)) := Lib.hid (by rw [← HqZ.out, if_neg h0, hbl])
      have hq1x := hq1l
      clear HA y1 y2 hP hbl
      go_wp2_with fail
      refine region_wild X2 15 75 [] (fun _ _ _ => True) (Below.refl _ _) (by kernel_rfl) (by kernel_rfl) rfl (fun _ _ _ _ _ _ => trivial) ?_
      apply Exists.intro
      refine ⟨?_, ?_, ?_⟩
      · intro X hX
        obtain ⟨v, rfl⟩ := ext_of hX
        clear hX
        simp only [List.take_succ_cons, List.take_zero]
        simp [muteAt, mute]
        repeat (go_big_quiet_step ((go_at_call 32; exact Calls.in_ext (of_any _ _ _ _))))
        exact wpQuiet_nil rfl
      · intro w9 hw9 j hj
        cases hj
      · intro xs X3 hb3 _ _ _
        simp only [List.drop_succ_cons, List.drop_zero, putAll]
        go_wp2_with fail
        have hs3 := hb3.size
        have hx0 := H2.out.2.2.1.lt
        have hxo := H2.out.2.2.2.lt
        refine calls_forget (F := fun Y => BkIs Y bb (bb + 2) qA v2 ∧ Elems tPst Y Y.heap.size (some ⟨X3.heap.size, 0, none⟩) [((2, noName), (-P1)), ((1, noName), (-P2)), ((3, noName), (-P3))] ∧ Below X2.heap.size X2 Y ∧ Y.heap.size = X3.heap.size + 1) ⟨?_, ?_, ?_, ?_⟩ ?_
        · exact ⟨(H2.out.2.2.1.below hb3).alloc _, (H2.out.2.2.2.below hb3 (by omega)).below (below_self _ _) (by omega)⟩
        · exact Elems.of_block (t := 55) [[.int .i64 2, .string noName, .int .i64 (-P1)], [.int .i64 1, .string noName, .int .i64 (-P2)], [.int .i64 3, .string noName, .int .i64 (-P3)]] (Bk.new _ _ _) (by simp) rfl (fun i hi => by
            have h3 : i = 0 ∨ i = 1 ∨ i = 2 := by simp at hi; omega
            have hnn : noName.size ≤ maxLen := by show 0 ≤ maxLen; omega
            rcases h3 with rfl | rfl | rfl
            · exact ⟨[.int .i64 2, .string noName], [.int .i64 (-P1)], rfl, ⟨[.int .i64 2], [.string noName], rfl, ⟨rfl, by show _ ≤ (2:Int) ∧ (2:Int) ≤ _; omega⟩, ⟨rfl, hnn⟩⟩, ⟨rfl, by show _ ≤ (-P1) ∧ (-P1) ≤ _; omega⟩⟩
            · exact ⟨[.int .i64 1, .string noName], [.int .i64 (-P2)], rfl, ⟨[.int .i64 1], [.string noName], rfl, ⟨rfl, by show _ ≤ (1:Int) ∧ (1:Int) ≤ _; omega⟩, ⟨rfl, hnn⟩⟩, ⟨rfl, by show _ ≤ (-P2) ∧ (-P2) ≤ _; omega⟩⟩
            · exact ⟨[.int .i64 3, .string noName], [.int .i64 (-P3)], rfl, ⟨[.int .i64 3], [.string noName], rfl, ⟨rfl, by show _ ≤ (3:Int) ∧ (3:Int) ≤ _; omega⟩, ⟨rfl, hnn⟩⟩, ⟨rfl, by show _ ≤ (-P3) ∧ (-P3) ≤ _; omega⟩⟩) rfl
        · exact hb3.trans (below_self _ _ |>.mono hs3)
        · simp
        rintro Y ⟨y1, y2, y3, y4⟩
        refine (post_any bb (bb + 2) v2 qA (some ⟨X3.heap.size, 0, none⟩) [((2, noName), (-P1)), ((1, noName), (-P2)), ((3, noName), (-P3))] 3 3 Y Y.heap.size y1 (by omega) (by omega) y2 (Nat.le_refl _) rfl 1000 (by omega) (by omega) (fun b hb => by
          simp at hb
          subst hb
          exact ⟨by omega, fun h => by have := hxo _ h; omega⟩)).mono ?_
        rintro e X4 ⟨rfl, v4, z1, z2, z3⟩
        change BkIs X4 bb (bb + 2) (qA ++ partsL (-P1) (-P2) (-P3)) v4 at z1
        obtain ⟨q3, hq3⟩ : ∃ q, qA ++ partsL (-P1) (-P2) (-P3) = q := ⟨_, rfl⟩
        rw [hq3] at z1
        have Hq3 := Lib.hid hq3
        clear hq3
        obtain ⟨A4, c4, rfl, hc4, hm4⟩ := z1.2.form
        have r4 : Bk X4 (w.heap.size + 1) _ _ := (H2.out.2.1.below y3).only z2 (by
          rintro (h | h)
          · omega
          · have := hxo _ h; omega)
        have hw4 : Below w.heap.size w X4 := (H2.out.1.trans (y3.mono (by have := H2.out.1.size; omega))).trans (z2.to_below (fun g hg => by
          rcases hg with h | h
          · omega
          · have := hxo _ h; omega) (by have := H2.out.1.size; omega))
        have cb := z1.1.cell
        have lb := z1.1.lt
        have fr := r4.free
        have cr := r4.cell
        have lr := r4.lt
        have HZ := Lib.hid (And.intro z1 (And.intro hw4 (And.intro hc4 hm4)))
        clear c2 l2 hs3 hx0 hxo hb3 y1 y2 y3 y4 z1 z2 z3 hc4 hm4 r4 hw4
        go_wp2_with fail
        have ho9 : Only (fun g => g = w.heap.size + 1) X4 ((X4.setCell ⟨w.heap.size + 1, 0, none⟩ (.int .i64 0)).setCell ⟨w.heap.size + 1, 1, none⟩ (.slice A4 q3.length c4)) := ((Only.refl (fun g => g = w.heap.size + 1) X4).set_ (p := ⟨w.heap.size + 1, 0, none⟩) (.inl rfl) _).set_ (p := ⟨w.heap.size + 1, 1, none⟩) (.inl rfl) _
        have hE9 := (HZ.out.1.2.only ho9 (fun g hg => by omega) (by omega) (fun g hg h => by have := HZ.out.1.2.lt g hg; omega)).elems (B2 := ((X4.setCell ⟨w.heap.size + 1, 0, none⟩ (.int .i64 0)).setCell ⟨w.heap.size + 1, 1, none⟩ (.slice A4 q3.length c4)).heap.size) (by omega) (Nat.le_refl _)
        have hB9 := HZ.out.2.1.trans (ho9.to_below (fun g hg => by omega) (HZ.out.2.1.size))
        rw [Hq1.out, Hbl.out, Hq3.out]
        exact bodyPost_ret (v := .tuple #[.agg #[.int .i64 0, .slice A4 q3.length c4], .int .i64 0]) (by simp [results, Try.results16, go_sem, cr, fr, lr]) rfl (booked_some rfl hE9 HZ.out.2.2.1 HZ.out.2.2.2 hB9)
end
end Go.Proofs.Ytggmihnhdojepaa
