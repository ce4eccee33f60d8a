/- Layer 34 (deal): right, and Sale. -/
import Derived.Test.YtggmihnhdojepaaDealG
namespace Go.Proofs.Ytggmihnhdojepaa
open Go.RowKit
set_option linter.unusedVariables false
set_option linter.unusedSimpArgs false
attribute [local go_sem] ext_cell ext_frozen lt_ext ext_drew

theorem sum_part (ls : List Ln) : partOf 0 ls = sumOf ls := by
  unfold partOf
  rw [List.filter_eq_self.2 (fun l _ => by simp [pickB])]
theorem right_out {ls : List Ln} {total : Int} (h : rightB ls total = true) : ls.all lineB = true ∧ sumOf ls = total ∧ 0 ≤ total ∧ total ≤ 1000000000 := by
  simp only [rightB, Bool.and_eq_true, decide_eq_true_eq] at h
  have := sumOf_bd ls h.1.1.2
  exact ⟨h.1.1.2, h.1.2, by omega, by omega⟩
theorem right_back (ls : List Ln) (total : Int) : backE 0 ls total 0 1 = if rightB ls total = true then 0 else 1 := by
  unfold backE
  by_cases h : rightB ls total = true
  · rw [if_pos h, if_pos h]
    obtain ⟨_, h1, h2, h3⟩ := right_out h
    have hv : validB (partOf 0 ls) = true := by rw [sum_part, h1]; exact validB_in (by omega)
    have hr : ratioB 0 1 = true := rfl
    have h0 : roundP (partOf 0 ls * 0) 1 = 0 := by rw [Int.mul_zero]; exact round_zero 1 (by omega)
    have := (share_is hv hr h0).2
    rw [this]; rfl
  · rw [if_neg h, if_neg h]

set_option maxHeartbeats 1000000 in
theorem dright_any (A : Option Addr) (ls : List Ln) (cap n : Nat) (total : Int) (w : World) (B : Nat) (h : Elems tLine w B A ls) (hB : B ≤ w.heap.size) (hn : ls.length = n) (hl : n ≤ 60) (ht : fits total) :
    Calls Try.prog 27 #[.agg #[.slice A n cap, .int .i64 total]] w fun e w' => e = .returned (.bool (rightB ls total)) ∧ Below w.heap.size w w' := by
  obtain ⟨bv, hbv⟩ : ∃ v, backV 0 ls total 0 1 = v := ⟨_, rfl⟩
  have hbe := right_back ls total
  obtain ⟨r, hr⟩ : ∃ v, rightB ls total = v := ⟨_, rfl⟩
  rw [hr] at hbe ⊢
  have Hbv := Lib.hid hbv
  have Hbe := Lib.hid hbe
  have HE := Lib.hid (h.keep ((Below.refl _ _).alloc hB (.cells #[.slice A n cap, .int .i64 total] 24)) (Nat.le_refl _))
  have hB2 : B ≤ (w.alloc (.cells #[.slice A n cap, .int .i64 total] 24)).heap.size := by simp; omega
  have HB2 := Lib.hid hB2
  clear hbv hbe hr h hB2
  go_enter Try.func27, Try.ntmps27
  go_wp2_with fail
  refine (back_any A ls cap n total 0 1 _ B HE.out HB2.out hn hl ht).mono ?_
  rintro e w' ⟨rfl, hb⟩
  (first | (obtain ⟨u, rfl⟩ := ext_more hb; clear hb) | (obtain ⟨u, rfl⟩ := ext_more_alloc hb; clear hb) | (obtain ⟨u, rfl⟩ := ext_of hb; clear hb))
  rw [Hbv.out, Hbe.out]
  cases r
  all_goals
    go_wp2_with fail
    go_ret
    exact ⟨rfl, by (repeat (first | with_reducible exact Below.refl _ _ | with_reducible assumption | with_reducible refine Below.alloc0 ?_ _ | with_reducible refine Below.ext0 ?_ _ | with_reducible refine Below.drew ?_ | with_reducible refine below_drewN ?_ _ | (with_reducible refine Below.setCell (hp := ?hp) ?_ _; case hp => (first | (simp; done) | (simp; omega)))))⟩

def noName : ByteArray := ⟨#[]⟩
def saleE (ls : List Ln) (total : Int) (pn : ByteArray) (ms : List Mn) : Int := if rightB ls total && nameB pn && totB ms then (if sumM ms = total then 0 else 19) else 1
def partsL (a b c : Int) : List Pst := postL [((2, noName), a), ((1, noName), b), ((3, noName), c)]
def saleL (ls : List Ln) (total : Int) (pn : ByteArray) (ms : List Mn) : List Pst := if saleE ls total pn ms = 0 then payL ms (-1) ++ partsL (partOf 1 ls) (partOf 2 ls) (partOf 3 ls) else []

/-- How a function that makes a booking ends. -/
def Booked (w : World) (ps : List Pst) (err : Int) (e : Ending) (w' : World) : Prop :=
  ∃ A n c, e = .returned (.tuple #[.agg #[.int .i64 0, .slice A n c], .int .i64 err]) ∧ n = ps.length ∧ Elems tPst w' w'.heap.size A ps ∧ n ≤ c ∧ c ≤ maxLen ∧ Below w.heap.size w w'
theorem booked_none {w w' : World} {err : Int} {e : Ending} (hb : Below w.heap.size w w') (he : e = .returned (.tuple #[.agg #[.int .i64 0, .slice none 0 0], .int .i64 err])) : Booked w [] err e w' :=
  ⟨none, 0, 0, he, rfl, Elems.nil, Nat.le_refl _, by unfold maxLen; omega, hb⟩
theorem booked_some {w w' : World} {ps : List Pst} {A : Option Addr} {c : Nat} {err : Int} {e : Ending} (he : e = .returned (.tuple #[.agg #[.int .i64 0, .slice A ps.length c], .int .i64 err])) (h1 : Elems tPst w' w'.heap.size A ps) (h2 : ps.length ≤ c) (h3 : c ≤ maxLen) (h4 : Below w.heap.size w w') : Booked w ps err e w' := ⟨A, _, c, he, rfl, h1, h2, h3, h4⟩
theorem okM_in {ms : List Mn} (h : okM ms = true) : ∀ m ∈ ms, 0 ≤ m.2 ∧ m.2 ≤ 1000000000 := fun m hm => by
  obtain ⟨k, hk, hkm⟩ := List.getElem_of_mem hm
  unfold okM at h
  have := List.all_eq_true.1 h k (List.mem_range.2 hk)
  rw [List.getElem?_eq_getElem hk] at this
  simp only [Bool.not_eq_true'] at this
  have h2 := meanB_out (badM_false this).2
  rw [hkm] at h2
  omega
theorem totB_out {ms : List Mn} (h : totB ms = true) : ms.length ≤ 12 ∧ okM ms = true := by
  unfold totB at h
  simpa using h

section
variable {A : Option Addr} {ls : List Ln} {cap n : Nat} {total : Int} {A2 : Option Addr} {ms : List Mn} {cap2 n2 : Nat} {pn : ByteArray} {w : World} {B : Nat}
theorem total_in (h : Elems tMean w B A2 ms) (hB : B ≤ w.heap.size) (hn : ms.length = n2) (hl : n2 ≤ 9223372036854775807) (tv : Int) (tb : Bool) (h1 : totV ms = tv) (h2 : totB ms = tb) : ∀ X, Below w.heap.size w X → Calls Try.prog 26 #[.slice A2 n2 cap2] X fun e w' => e = .returned (.tuple #[.int .i64 tv, .bool tb]) ∧ Below X.heap.size X w' := fun X hX => by
  have := total_any A2 ms cap2 n2 X B (h.keep (hX.mono hB) (Nat.le_refl _)) (by have := hX.size; omega) hn hl
  rwa [h1, h2] at this
theorem right_in (h : Elems tLine w B A ls) (hB : B ≤ w.heap.size) (hn : ls.length = n) (hl : n ≤ 60) (ht : fits total) (r : Bool) (h1 : rightB ls total = r) : ∀ X, Below w.heap.size w X → Calls Try.prog 27 #[.agg #[.slice A n cap, .int .i64 total]] X fun e w' => e = .returned (.bool r) ∧ Below X.heap.size X w' := fun X hX => by
  have := dright_any A ls cap n total X B (h.keep (hX.mono hB) (Nat.le_refl _)) (by have := hX.size; omega) hn hl ht
  rwa [h1] at this
theorem sums_in (h : Elems tLine w B A ls) (hB : B ≤ w.heap.size) (hn : ls.length = n) (hl : n ≤ 60) (hall : ls.all lineB = true) (a b c : Int) (h1 : partOf 1 ls = a) (h2 : partOf 2 ls = b) (h3 : partOf 3 ls = c) : ∀ X, Below w.heap.size w X → Calls Try.prog 29 #[.agg #[.slice A n cap, .int .i64 total]] X fun e w' => e = .returned (.agg #[.int .i64 a, .int .i64 b, .int .i64 c]) ∧ Below X.heap.size X w' := fun X hX => by
  have := sums_any A ls cap n total X B (h.keep (hX.mono hB) (Nat.le_refl _)) (by have := hX.size; omega) hn hl hall
  rwa [h1, h2, h3] at this
theorem name_in (hs : pn.size ≤ maxLen) (r : Bool) (h1 : nameB pn = r) : ∀ X, Calls Try.prog 28 #[.string pn] X fun e w' => e = .returned (.bool r) ∧ X = w' := fun X => by
  have := name_any pn X hs
  rwa [h1] at this

set_option maxRecDepth 100000 in
set_option maxHeartbeats 4000000 in
theorem sale_any (h : Elems tLine w B A ls) (h2 : Elems tMean w B A2 ms) (hB : B ≤ w.heap.size) (hn : ls.length = n) (hl : n ≤ 60) (ht : fits total) (hn2 : ms.length = n2) (hl2 : n2 ≤ 9223372036854775807) (hpn : pn.size ≤ maxLen) :
    Calls Try.prog 12 #[.agg #[.slice A n cap, .int .i64 total], .string pn, .slice A2 n2 cap2] w (Booked w (saleL ls total pn ms) (saleE ls total pn ms)) := by
  obtain ⟨tv, htv⟩ : ∃ v, totV ms = v := ⟨_, rfl⟩
  obtain ⟨tb, htb⟩ : ∃ v, totB ms = v := ⟨_, rfl⟩
  obtain ⟨r, hr⟩ : ∃ v, rightB ls total = v := ⟨_, rfl⟩
  obtain ⟨nb, hnb⟩ : ∃ v, nameB pn = v := ⟨_, rfl⟩
  have Htot := Lib.hid (total_in (cap2 := cap2) h2 hB hn2 hl2 tv tb htv htb)
  have Hrgt := Lib.hid (right_in (cap := cap) h hB hn hl ht r hr)
  have Hnam := Lib.hid (name_in hpn nb hnb)
  have hse : saleE ls total pn ms = if (r && nb && tb) = true then (if sumM ms = total then 0 else 19) else 1 := by unfold saleE; rw [hr, hnb, htb]
  have HSE := Lib.hid hse
  have HE := Lib.hid (And.intro h (And.intro h2 (And.intro htv (And.intro htb hr))))
  clear htv htb hr hnb hse h h2
  by_cases hgood : r = true ∧ nb = true ∧ tb = true
  · obtain ⟨rfl, rfl, rfl⟩ := hgood
    have hs0 : saleE ls total pn ms = if sumM ms = total then 0 else 19 := by rw [HSE.out]; rfl
    obtain ⟨hm12, hok⟩ := totB_out HE.out.2.2.2.1
    have htv2 : tv = sumM ms := by rw [← HE.out.2.2.1]; unfold totV; rw [if_pos HE.out.2.2.2.1]
    obtain ⟨hall, hsum, ht0, ht1⟩ := right_out HE.out.2.2.2.2
    by_cases hm : tv = total
    · have hs1 : saleE ls total pn ms = 0 := by rw [hs0, if_pos (htv2 ▸ hm)]
      have hL : saleL ls total pn ms = payL ms (-1) ++ partsL (partOf 1 ls) (partOf 2 ls) (partOf 3 ls) := by unfold saleL; rw [if_pos hs1]
      rw [hL, hs1]
      obtain ⟨S1, hS1⟩ : ∃ v, partOf 1 ls = v := ⟨_, rfl⟩
      obtain ⟨S2, hS2⟩ : ∃ v, partOf 2 ls = v := ⟨_, rfl⟩
      obtain ⟨S3, hS3⟩ : ∃ v, partOf 3 ls = v := ⟨_, rfl⟩
      have Hsum := Lib.hid (sums_in (cap := cap) (total := total) HE.out.1 hB hn hl hall S1 S2 S3 hS1 hS2 hS3)
      have hP1 := partOf_bd 1 ls hall
      have hP2 := partOf_bd 2 ls hall
      have hP3 := partOf_bd 3 ls hall
      rw [hsum] at hP1 hP2 hP3
      rw [hS1] at hP1 ⊢
      rw [hS2] at hP2 ⊢
      rw [hS3] at hP3 ⊢
      have Hok := Lib.hid (okM_in hok)
      subst hm
      clear hL hs1 hs0 HSE hS1 hS2 hS3 hall hsum hok htv2
      go_enter Try.func12, Try.ntmps12
      go_upto_region 7 with (first
        | (go_at_call 26; refine Calls.mono (Htot.out _ ?bel) ?_; (case bel => (repeat (first | with_reducible exact Below.refl _ _ | with_reducible assumption | with_reducible refine Below.alloc0 ?_ _ | with_reducible refine Below.ext0 ?_ _ | with_reducible refine Below.drew ?_ | with_reducible refine below_drewN ?_ _ | (with_reducible refine Below.setCell (hp := ?hp) ?_ _; case hp => (first | (simp; done) | (simp; omega)))))); rintro e w' ⟨rfl, hb⟩; (first | (obtain ⟨u, rfl⟩ := ext_more hb; clear hb) | (obtain ⟨u, rfl⟩ := ext_more_alloc hb; clear hb) | (obtain ⟨u, rfl⟩ := ext_of hb; clear hb)))
        | (go_at_call 27; refine Calls.mono (Hrgt.out _ ?bel) ?_; (case bel => (repeat (first | with_reducible exact Below.refl _ _ | with_reducible assumption | with_reducible refine Below.alloc0 ?_ _ | with_reducible refine Below.ext0 ?_ _ | with_reducible refine Below.drew ?_ | with_reducible refine below_drewN ?_ _ | (with_reducible refine Below.setCell (hp := ?hp) ?_ _; case hp => (first | (simp; done) | (simp; omega)))))); rintro e w' ⟨rfl, hb⟩; (first | (obtain ⟨u, rfl⟩ := ext_more hb; clear hb) | (obtain ⟨u, rfl⟩ := ext_more_alloc hb; clear hb) | (obtain ⟨u, rfl⟩ := ext_of hb; clear hb)))
        | (go_at_call 28; refine Calls.mono (Hnam.out _) ?_; rintro e w' ⟨rfl, rfl⟩)
        | (go_at_call 29; refine Calls.mono (Hsum.out _ ?bel) ?_; (case bel => (repeat (first | with_reducible exact Below.refl _ _ | with_reducible assumption | with_reducible refine Below.alloc0 ?_ _ | with_reducible refine Below.ext0 ?_ _ | with_reducible refine Below.drew ?_ | with_reducible refine below_drewN ?_ _ | (with_reducible refine Below.setCell (hp := ?hp) ?_ _; case hp => (first | (simp; done) | (simp; omega)))))); rintro e w' ⟨rfl, hb⟩; (first | (obtain ⟨u, rfl⟩ := ext_more hb; clear hb) | (obtain ⟨u, rfl⟩ := ext_more_alloc hb; clear hb) | (obtain ⟨u, rfl⟩ := ext_of hb; clear hb))))
      refine forget (fun X => Below w.heap.size w X ∧ Bk X (w.heap.size + 1) #[.int .i64 0, .slice none 0 0] 34 ∧ BkIs X (ext ((w.alloc (.cells #[.slice A n cap, .int .i64 tv] 24)).alloc (.cells #[.int .i64 0, .slice none 0 0] 34)) u).heap.size ((ext ((w.alloc (.cells #[.slice A n cap, .int .i64 tv] 24)).alloc (.cells #[.int .i64 0, .slice none 0 0] 34)) u).heap.size + 2) [] (.slice none 0 0) ∧ Bk X ((ext ((w.alloc (.cells #[.slice A n cap, .int .i64 tv] 24)).alloc (.cells #[.int .i64 0, .slice none 0 0] 34)) u).heap.size + 1) #[.int .i64 S1, .int .i64 S2, .int .i64 S3] 70 ∧ w.heap.size + 1 < (ext ((w.alloc (.cells #[.slice A n cap, .int .i64 tv] 24)).alloc (.cells #[.int .i64 0, .slice none 0 0] 34)) u).heap.size ∧ (ext ((w.alloc (.cells #[.slice A n cap, .int .i64 tv] 24)).alloc (.cells #[.int .i64 0, .slice none 0 0] 34)) u).heap.size + 2 ≤ X.heap.size) ⟨by (repeat (first | with_reducible exact Below.refl _ _ | with_reducible assumption | with_reducible refine Below.alloc0 ?_ _ | with_reducible refine Below.ext0 ?_ _ | with_reducible refine Below.drew ?_ | with_reducible refine below_drewN ?_ _ | (with_reducible refine Below.setCell (hp := ?hp) ?_ _; case hp => (first | (simp; done) | (simp; omega))))), (((bk_new_at _ _ _ _ (by simp)).ext _).alloc _).alloc _, ⟨(Bk.new _ _ _).alloc _, OwnL.nil⟩, bk_new_at _ _ _ _ (by simp), by have := size_ext ((w.alloc (.cells #[.slice A n cap, .int .i64 tv] 24)).alloc (.cells #[.int .i64 0, .slice none 0 0] 34)) u; simp at this; omega, by simp⟩ ?_
      generalize (ext ((w.alloc (.cells #[.slice A n cap, .int .i64 tv] 24)).alloc (.cells #[.int .i64 0, .slice none 0 0] 34)) u).heap.size = bb at *
      rintro X ⟨hw, hr, hb, hs, hlt, hX⟩
      have HX := Lib.hid (And.intro hw (And.intro hr hs))
      clear Htot Hrgt Hnam Hsum
      go_wp2_with fail
      refine (pay_any bb (bb + 2) (.slice none 0 0) [] A2 ms cap2 n2 (-1) X B hb (by omega) hX (HE.out.2.1.keep (hw.mono hB) (Nat.le_refl _)) (by omega) hn2 (by simp; omega) Hok.out (.inr rfl)).mono ?_
      rintro e X2 ⟨rfl, v2, z1, z2, z3⟩
      have r2 := HX.out.2.1.only z2 (by simp [Value.ownBlock]; omega)
      have s2 := HX.out.2.2.only z2 (by simp [Value.ownBlock])
      have hw2 : Below w.heap.size w X2 := HX.out.1.trans (z2.to_below (fun g hg => by simp [Value.ownBlock] at hg; omega) HX.out.1.size)
      have c2 := s2.cell
      have l2 := s2.lt
      rw [List.nil_append] at z1
      have hz2 := z2.size
      have H2 := Lib.hid (And.intro hw2 (And.intro r2 z1))
      clear hw hr hb hs HX z1 z2 z3 hw2 r2 s2
      obtain ⟨q1, hq1⟩ : ∃ q, payL ms (-1) = q := ⟨_, rfl⟩
      have hq1l : q1.length ≤ 12 := by
        rw [← hq1]
        have := payL_len ms (-1) ms.length
        rw [List.take_length] at this
        omega
      rw [hq1] at H2
      have Hq1 := Lib.hid hq1
      clear hq1
      go_wp2_with fail
      refine region_wild X2 9 55 [] (fun _ _ _ => True) (Below.refl _ _) (by kernel_rfl) (by kernel_rfl) rfl (fun _ _ _ _ _ _ => trivial) ?_
      apply Exists.intro
      refine ⟨?_, ?_, ?_⟩
      · intro X hX
        obtain ⟨v, rfl⟩ := ext_of hX
        clear hX
        simp only [List.take_succ_cons, List.take_zero]
        simp [muteAt, mute]
        repeat (go_big_quiet_step ((go_at_call 32; exact Calls.in_ext (of_any _ _ _ _))))
        exact wpQuiet_nil rfl
      · intro w9 hw9 j hj
        cases hj
      · intro xs X3 hb3 _ _ _
        simp only [List.drop_succ_cons, List.drop_zero, putAll]
        have hs3 := hb3.size
        have hx0 := H2.out.2.2.1.lt
        have hxo := H2.out.2.2.2.lt
        go_wp2_with fail
        refine calls_forget (F := fun Y => BkIs Y bb (bb + 2) q1 v2 ∧ Elems tPst Y Y.heap.size (some ⟨X3.heap.size, 0, none⟩) [((2, noName), S1), ((1, noName), S2), ((3, noName), S3)] ∧ Below X2.heap.size X2 Y ∧ Y.heap.size = X3.heap.size + 1) ⟨?_, ?_, ?_, ?_⟩ ?_
        · exact ⟨(H2.out.2.2.1.below hb3).alloc _, (H2.out.2.2.2.below hb3 (by omega)).below (below_self _ _) (by omega)⟩
        · exact Elems.of_block (t := 55) [[.int .i64 2, .string noName, .int .i64 S1], [.int .i64 1, .string noName, .int .i64 S2], [.int .i64 3, .string noName, .int .i64 S3]] (Bk.new _ _ _) (by simp) rfl (fun i hi => by
            have h3 : i = 0 ∨ i = 1 ∨ i = 2 := by simp at hi; omega
            have hnn : noName.size ≤ maxLen := by show 0 ≤ maxLen; omega
            rcases h3 with rfl | rfl | rfl
            · exact ⟨[.int .i64 2, .string noName], [.int .i64 S1], rfl, ⟨[.int .i64 2], [.string noName], rfl, ⟨rfl, by show _ ≤ (2:Int) ∧ (2:Int) ≤ _; omega⟩, ⟨rfl, hnn⟩⟩, ⟨rfl, by show _ ≤ S1 ∧ S1 ≤ _; omega⟩⟩
            · exact ⟨[.int .i64 1, .string noName], [.int .i64 S2], rfl, ⟨[.int .i64 1], [.string noName], rfl, ⟨rfl, by show _ ≤ (1:Int) ∧ (1:Int) ≤ _; omega⟩, ⟨rfl, hnn⟩⟩, ⟨rfl, by show _ ≤ S2 ∧ S2 ≤ _; omega⟩⟩
            · exact ⟨[.int .i64 3, .string noName], [.int .i64 S3], rfl, ⟨[.int .i64 3], [.string noName], rfl, ⟨rfl, by show _ ≤ (3:Int) ∧ (3:Int) ≤ _; omega⟩, ⟨rfl, hnn⟩⟩, ⟨rfl, by show _ ≤ S3 ∧ S3 ≤ _; omega⟩⟩) rfl
        · exact hb3.trans (below_self _ _ |>.mono hs3)
        · simp
        rintro Y ⟨y1, y2, y3, y4⟩
        refine (post_any bb (bb + 2) v2 q1 (some ⟨X3.heap.size, 0, none⟩) [((2, noName), S1), ((1, noName), S2), ((3, noName), S3)] 3 3 Y Y.heap.size y1 (by omega) (by omega) y2 (Nat.le_refl _) rfl 1000 (by omega) (by omega) (fun b hb => by
          simp at hb
          subst hb
          exact ⟨by omega, fun h => by have := hxo _ h; omega⟩)).mono ?_
        rintro e X4 ⟨rfl, v4, z1, z2, z3⟩
        change BkIs X4 bb (bb + 2) (q1 ++ partsL S1 S2 S3) v4 at z1
        obtain ⟨q3, hq3⟩ : ∃ q, q1 ++ partsL S1 S2 S3 = q := ⟨_, rfl⟩
        rw [hq3] at z1
        have Hq3 := Lib.hid hq3
        clear hq3
        obtain ⟨A4, c4, rfl, hc4, hm4⟩ := z1.2.form
        have r4 : Bk X4 (w.heap.size + 1) _ _ := (H2.out.2.1.below y3).only z2 (by
          rintro (h | h)
          · omega
          · have := hxo _ h; omega)
        have hw4 : Below w.heap.size w X4 := (H2.out.1.trans (y3.mono (by have := H2.out.1.size; omega))).trans (z2.to_below (fun g hg => by
          rcases hg with h | h
          · omega
          · have := hxo _ h; omega) (by have := H2.out.1.size; omega))
        have cb := z1.1.cell
        have lb := z1.1.lt
        have fr := r4.free
        have cr := r4.cell
        have lr := r4.lt
        have HZ := Lib.hid (And.intro z1 (And.intro hw4 (And.intro hc4 hm4)))
        clear c2 l2 hs3 hx0 hxo hb3 y1 y2 y3 y4 z1 z2 z3 hc4 hm4 r4 hw4
        go_wp2_with fail
        have ho9 : Only (fun g => g = w.heap.size + 1) X4 ((X4.setCell ⟨w.heap.size + 1, 0, none⟩ (.int .i64 0)).setCell ⟨w.heap.size + 1, 1, none⟩ (.slice A4 q3.length c4)) := ((Only.refl (fun g => g = w.heap.size + 1) X4).set_ (p := ⟨w.heap.size + 1, 0, none⟩) (.inl rfl) _).set_ (p := ⟨w.heap.size + 1, 1, none⟩) (.inl rfl) _
        have hE9 := (HZ.out.1.2.only ho9 (fun g hg => by omega) (by omega) (fun g hg h => by have := HZ.out.1.2.lt g hg; omega)).elems (B2 := ((X4.setCell ⟨w.heap.size + 1, 0, none⟩ (.int .i64 0)).setCell ⟨w.heap.size + 1, 1, none⟩ (.slice A4 q3.length c4)).heap.size) (by omega) (Nat.le_refl _)
        have hB9 := HZ.out.2.1.trans (ho9.to_below (fun g hg => by omega) (HZ.out.2.1.size))
        rw [Hq1.out, Hq3.out]
        exact bodyPost_ret (v := .tuple #[.agg #[.int .i64 0, .slice A4 q3.length c4], .int .i64 0]) (by simp [results, Try.results12, go_sem, cr, fr, lr]) rfl (booked_some rfl hE9 HZ.out.2.2.1 HZ.out.2.2.2 hB9)
    · have hs1 : saleE ls total pn ms = 19 := by rw [hs0, if_neg (fun h => hm (htv2.trans h))]
      have hL : saleL ls total pn ms = [] := by unfold saleL; rw [if_neg (by rw [hs1]; decide)]
      rw [hL, hs1]
      clear hL hs1 hs0 HSE htv2 hall hsum hok
      go_enter Try.func12, Try.ntmps12
      go_wp2_with (first
        | (go_at_call 26; refine Calls.mono (Htot.out _ ?bel) ?_; (case bel => (repeat (first | with_reducible exact Below.refl _ _ | with_reducible assumption | with_reducible refine Below.alloc0 ?_ _ | with_reducible refine Below.ext0 ?_ _ | with_reducible refine Below.drew ?_ | with_reducible refine below_drewN ?_ _ | (with_reducible refine Below.setCell (hp := ?hp) ?_ _; case hp => (first | (simp; done) | (simp; omega)))))); rintro e w' ⟨rfl, hb⟩; (first | (obtain ⟨u, rfl⟩ := ext_more hb; clear hb) | (obtain ⟨u, rfl⟩ := ext_more_alloc hb; clear hb) | (obtain ⟨u, rfl⟩ := ext_of hb; clear hb)))
        | (go_at_call 27; refine Calls.mono (Hrgt.out _ ?bel) ?_; (case bel => (repeat (first | with_reducible exact Below.refl _ _ | with_reducible assumption | with_reducible refine Below.alloc0 ?_ _ | with_reducible refine Below.ext0 ?_ _ | with_reducible refine Below.drew ?_ | with_reducible refine below_drewN ?_ _ | (with_reducible refine Below.setCell (hp := ?hp) ?_ _; case hp => (first | (simp; done) | (simp; omega)))))); rintro e w' ⟨rfl, hb⟩; (first | (obtain ⟨u, rfl⟩ := ext_more hb; clear hb) | (obtain ⟨u, rfl⟩ := ext_more_alloc hb; clear hb) | (obtain ⟨u, rfl⟩ := ext_of hb; clear hb)))
        | (go_at_call 28; refine Calls.mono (Hnam.out _) ?_; rintro e w' ⟨rfl, rfl⟩))
      all_goals exact bodyPost_ret (v := .tuple #[.agg #[.int .i64 0, .slice none 0 0], .int .i64 19]) (by simp [results, Try.results12, go_sem]) rfl (booked_none (by (repeat (first | with_reducible exact Below.refl _ _ | with_reducible assumption | with_reducible refine Below.alloc0 ?_ _ | with_reducible refine Below.ext0 ?_ _ | with_reducible refine Below.drew ?_ | with_reducible refine below_drewN ?_ _ | (with_reducible refine Below.setCell (hp := ?hp) ?_ _; case hp => (first | (simp; done) | (simp; omega)))))) rfl)
  · have hs1 : saleE ls total pn ms = 1 := by
      rw [HSE.out, if_neg]
      intro h
      simp only [Bool.and_eq_true] at h
      exact hgood ⟨h.1.1, h.1.2, h.2⟩
    have hL : saleL ls total pn ms = [] := by unfold saleL; rw [if_neg (by rw [hs1]; decide)]
    rw [hL, hs1]
    clear hL hs1 HSE HE
    have hno : r = false ∨ (r = true ∧ nb = false) ∨ (r = true ∧ nb = true ∧ tb = false) := by
      cases r
      · exact .inl rfl
      · cases nb
        · exact .inr (.inl ⟨rfl, rfl⟩)
        · cases tb
          · exact .inr (.inr ⟨rfl, rfl, rfl⟩)
          · exact absurd ⟨rfl, rfl, rfl⟩ hgood
    clear hgood
    rcases hno with rfl | ⟨rfl, rfl⟩ | ⟨rfl, rfl, rfl⟩
    all_goals
      go_enter Try.func12, Try.ntmps12
      go_wp2_with (first
        | (go_at_call 26; refine Calls.mono (Htot.out _ ?bel) ?_; (case bel => (repeat (first | with_reducible exact Below.refl _ _ | with_reducible assumption | with_reducible refine Below.alloc0 ?_ _ | with_reducible refine Below.ext0 ?_ _ | with_reducible refine Below.drew ?_ | with_reducible refine below_drewN ?_ _ | (with_reducible refine Below.setCell (hp := ?hp) ?_ _; case hp => (first | (simp; done) | (simp; omega)))))); rintro e w' ⟨rfl, hb⟩; (first | (obtain ⟨u, rfl⟩ := ext_more hb; clear hb) | (obtain ⟨u, rfl⟩ := ext_more_alloc hb; clear hb) | (obtain ⟨u, rfl⟩ := ext_of hb; clear hb)))
        | (go_at_call 27; refine Calls.mono (Hrgt.out _ ?bel) ?_; (case bel => (repeat (first | with_reducible exact Below.refl _ _ | with_reducible assumption | with_reducible refine Below.alloc0 ?_ _ | with_reducible refine Below.ext0 ?_ _ | with_reducible refine Below.drew ?_ | with_reducible refine below_drewN ?_ _ | (with_reducible refine Below.setCell (hp := ?hp) ?_ _; case hp => (first | (simp; done) | (simp; omega)))))); rintro e w' ⟨rfl, hb⟩; (first | (obtain ⟨u, rfl⟩ := ext_more hb; clear hb) | (obtain ⟨u, rfl⟩ := ext_more_alloc hb; clear hb) | (obtain ⟨u, rfl⟩ := ext_of hb; clear hb)))
        | (go_at_call 28; refine Calls.mono (Hnam.out _) ?_; rintro e w' ⟨rfl, rfl⟩))
      all_goals exact bodyPost_ret (v := .tuple #[.agg #[.int .i64 0, .slice none 0 0], .int .i64 1]) (by simp [results, Try.results12, go_sem]) rfl (booked_none (by (repeat (first | with_reducible exact Below.refl _ _ | with_reducible assumption | with_reducible refine Below.alloc0 ?_ _ | with_reducible refine Below.ext0 ?_ _ | with_reducible refine Below.drew ?_ | with_reducible refine below_drewN ?_ _ | (with_reducible refine Below.setCell (hp := ?hp) ?_ _; case hp => (first | (simp; done) | (simp; omega)))))) rfl)
end
end Go.Proofs.Ytggmihnhdojepaa
