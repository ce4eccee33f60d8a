/- Layer 34 (deal): Resale. -/
import Derived.Test.YtggmihnhdojepaaDealH
namespace Go.Proofs.Ytggmihnhdojepaa
open Go.RowKit
set_option linter.unusedVariables false
set_option linter.unusedSimpArgs false
attribute [local go_sem] ext_cell ext_frozen lt_ext ext_drew

/-- A decision, as far as a resale looks at it: its cap and its share; the other cells. -/
def resaleE (n : Int) (ls : List Ln) (total cn cd sn sd : Int) (pn : ByteArray) (ms : List Mn) : Int :=
  if 0 ≤ n ∧ totB ms = true ∧ nameB pn = true ∧ shareE n sn sd = 0 ∧ sn ≤ sd ∧ backE 1 ls total cn cd ≠ 1 then
    (if backE 1 ls total cn cd ≠ 0 then backE 1 ls total cn cd else if backV 1 ls total cn cd < n then 15 else if sumM ms = n then 0 else 19) else 1
def resaleL (n : Int) (ls : List Ln) (total cn cd sn sd : Int) (pn : ByteArray) (ms : List Mn) : List Pst :=
  if resaleE n ls total cn cd sn sd pn ms = 0 then payL ms (-1) ++ postL [((2, noName), shareV n sn sd), ((6, pn), n - shareV n sn sd)] else []
theorem share_zero {n num den : Int} (h : shareE n num den = 0) : (-1000000000 ≤ n ∧ n ≤ 1000000000) ∧ ratioB num den = true ∧ (-1000000000 ≤ shareV n num den ∧ shareV n num den ≤ 1000000000) ∧ shareV n num den = roundP (n * num) den := by
  unfold shareE at h
  by_cases h1 : (validB n && ratioB num den) = true
  · rw [if_pos h1] at h
    by_cases h2 : validB (roundP (n * num) den) = true
    · have h3 : (validB n && ratioB num den && validB (roundP (n * num) den)) = true := by rw [h1, h2]; rfl
      have e : shareV n num den = roundP (n * num) den := by unfold shareV; rw [if_pos h3]
      simp only [Bool.and_eq_true] at h1
      exact ⟨validB_out h1.1, h1.2, by rw [e]; exact validB_out h2, e⟩
    · rw [if_neg h2] at h; exact absurd h (by decide)
  · rw [if_neg h1] at h; exact absurd h (by decide)
theorem backE_is (q : Int) (ls : List Ln) (total a b : Int) : backE q ls total a b = 0 ∨ backE q ls total a b = 1 ∨ backE q ls total a b = 2 := by
  unfold backE
  split
  · unfold shareE
    split
    · split
      · exact .inl rfl
      · exact .inr (.inr rfl)
    · exact .inr (.inl rfl)
  · exact .inr (.inl rfl)

section
variable {A : Option Addr} {ls : List Ln} {cap k : Nat} {total : Int} {A2 : Option Addr} {ms : List Mn} {cap2 n2 : Nat} {pn : ByteArray} {w : World} {B : Nat}
theorem top_in (h : Elems tLine w B A ls) (hB : B ≤ w.heap.size) (hn : ls.length = k) (hl : k ≤ 60) (ht : fits total) (a b v e' : Int) (h1 : backV 1 ls total a b = v) (h2 : backE 1 ls total a b = e') : ∀ X, Below w.heap.size w X → Calls Try.prog 22 #[.agg #[.slice A k cap, .int .i64 total], .agg #[.int .i64 a, .int .i64 b]] X fun e w' => e = .returned (.tuple #[.int .i64 v, .int .i64 e']) ∧ Below X.heap.size X w' := fun X hX => by
  have := top_any A ls cap k total a b X B (h.keep (hX.mono hB) (Nat.le_refl _)) (by have := hX.size; omega) hn hl ht
  rwa [h1, h2] at this

set_option maxRecDepth 100000 in
set_option maxHeartbeats 4000000 in
theorem resale_any (ok tg si : Bool) (lim price fn fd tn td cn cd sn sd rn rd y n : Int) (h : Elems tLine w B A ls) (h2 : Elems tMean w B A2 ms) (hB : B ≤ w.heap.size) (hn : ls.length = k) (hl : k ≤ 60) (ht : fits total) (hn2 : ms.length = n2) (hl2 : n2 ≤ 9223372036854775807) (hpn : pn.size ≤ maxLen) (hfn : fits n) :
    Calls Try.prog 14 #[.int .i64 n, .agg #[.slice A k cap, .int .i64 total], .agg #[.bool ok, .bool tg, .bool si, .int .i64 lim, .int .i64 price, .int .i64 fn, .int .i64 fd, .int .i64 tn, .int .i64 td, .int .i64 cn, .int .i64 cd, .int .i64 sn, .int .i64 sd, .int .i64 rn, .int .i64 rd, .int .i64 y], .string pn, .slice A2 n2 cap2] w (Booked w (resaleL n ls total cn cd sn sd pn ms) (resaleE n ls total cn cd sn sd pn ms)) := by
  obtain ⟨tv, htv⟩ : ∃ v, totV ms = v := ⟨_, rfl⟩
  obtain ⟨tb, htb⟩ : ∃ v, totB ms = v := ⟨_, rfl⟩
  obtain ⟨nb, hnb⟩ : ∃ v, nameB pn = v := ⟨_, rfl⟩
  obtain ⟨bv, hbv⟩ : ∃ v, backV 1 ls total cn cd = v := ⟨_, rfl⟩
  obtain ⟨be, hbe⟩ : ∃ v, backE 1 ls total cn cd = v := ⟨_, rfl⟩
  have Htot := Lib.hid (total_in (cap2 := cap2) h2 hB hn2 hl2 tv tb htv htb)
  have Htop := Lib.hid (top_in (cap := cap) h hB hn hl ht cn cd bv be hbv hbe)
  have Hnam := Lib.hid (name_in hpn nb hnb)
  have hbe3 := backE_is 1 ls total cn cd
  obtain ⟨E, hE⟩ : ∃ v, resaleE n ls total cn cd sn sd pn ms = v := ⟨_, rfl⟩
  have hse := hE
  unfold resaleE at hse
  rw [htb, hnb, hbv, hbe] at hse
  rw [hbe] at hbe3
  have HSE := Lib.hid hse
  have HE := Lib.hid (And.intro h (And.intro h2 (And.intro htv (And.intro htb hE))))
  unfold fits at hfn
  obtain ⟨g1, g2⟩ := hfn
  clear htv htb hnb hbv hbe hse h h2
  rw [hE]
  by_cases hn0 : n < 0
  · obtain rfl : E = 1 := by rw [← HSE.out, if_neg (by omega)]
    have hL : resaleL n ls total cn cd sn sd pn ms = [] := by unfold resaleL; rw [hE, if_neg (by decide)]
    rw [hL]
    clear hL HSE HE hE
    go_enter Try.func14, Try.ntmps14
    go_wp2_with (first
      | (go_at_call 26; refine Calls.mono (Htot.out _ ?bel) ?_; (case bel => (repeat (first | with_reducible exact Below.refl _ _ | with_reducible assumption | with_reducible refine Below.alloc0 ?_ _ | with_reducible refine Below.ext0 ?_ _ | with_reducible refine Below.drew ?_ | with_reducible refine below_drewN ?_ _ | (with_reducible refine Below.setCell (hp := ?hp) ?_ _; case hp => (first | (simp; done) | (simp; omega)))))); rintro e w' ⟨rfl, hb⟩; (first | (obtain ⟨u, rfl⟩ := ext_more hb; clear hb) | (obtain ⟨u, rfl⟩ := ext_more_alloc hb; clear hb) | (obtain ⟨u, rfl⟩ := ext_of hb; clear hb)))
      | (go_at_call 22; refine Calls.mono (Htop.out _ ?bel) ?_; (case bel => (repeat (first | with_reducible exact Below.refl _ _ | with_reducible assumption | with_reducible refine Below.alloc0 ?_ _ | with_reducible refine Below.ext0 ?_ _ | with_reducible refine Below.drew ?_ | with_reducible refine below_drewN ?_ _ | (with_reducible refine Below.setCell (hp := ?hp) ?_ _; case hp => (first | (simp; done) | (simp; omega)))))); rintro e w' ⟨rfl, hb⟩; (first | (obtain ⟨u, rfl⟩ := ext_more hb; clear hb) | (obtain ⟨u, rfl⟩ := ext_more_alloc hb; clear hb) | (obtain ⟨u, rfl⟩ := ext_of hb; clear hb)))
      | (go_at_call 23; refine Calls.mono (share_any _ _ _ _) ?_; rintro e w' ⟨rfl, hb⟩; (first | (obtain ⟨u, rfl⟩ := ext_more hb; clear hb) | (obtain ⟨u, rfl⟩ := ext_more_alloc hb; clear hb) | (obtain ⟨u, rfl⟩ := ext_of hb; clear hb)))
      | (go_at_call 28; refine Calls.mono (Hnam.out _) ?_; rintro e w' ⟨rfl, rfl⟩))
    all_goals exact bodyPost_ret (v := .tuple #[.agg #[.int .i64 0, .slice none 0 0], .int .i64 1]) (by simp [results, Try.results14, go_sem]) rfl (booked_none (by (repeat (first | with_reducible exact Below.refl _ _ | with_reducible assumption | with_reducible refine Below.alloc0 ?_ _ | with_reducible refine Below.ext0 ?_ _ | with_reducible refine Below.drew ?_ | with_reducible refine below_drewN ?_ _ | (with_reducible refine Below.setCell (hp := ?hp) ?_ _; case hp => (first | (simp; done) | (simp; omega)))))) rfl)
  · have hn1 : 0 ≤ n := by omega
    have hmx : max n 0 = n := by omega
    obtain ⟨sv, hsv⟩ : ∃ v, shareV n sn sd = v := ⟨_, rfl⟩
    obtain ⟨se, hse⟩ : ∃ v, shareE n sn sd = v := ⟨_, rfl⟩
    have HS1 := Lib.hid hsv
    have HS2 := Lib.hid hse
    rw [hse] at HSE
    clear hsv hse
    have hcase : (tb = false ∧ E = 1) ∨ (tb = true ∧ nb = false ∧ E = 1) ∨ (tb = true ∧ nb = true ∧ se ≠ 0 ∧ E = 1) ∨ (tb = true ∧ nb = true ∧ se = 0 ∧ sd < sn ∧ E = 1) ∨ (tb = true ∧ nb = true ∧ se = 0 ∧ sn ≤ sd ∧ be = 1 ∧ E = 1) ∨
        (tb = true ∧ nb = true ∧ se = 0 ∧ sn ≤ sd ∧ be = 2 ∧ E = 2) ∨ (tb = true ∧ nb = true ∧ se = 0 ∧ sn ≤ sd ∧ be = 0 ∧ bv < n ∧ E = 15) ∨ (tb = true ∧ nb = true ∧ se = 0 ∧ sn ≤ sd ∧ be = 0 ∧ n ≤ bv ∧ sumM ms ≠ n ∧ E = 19) ∨ (tb = true ∧ nb = true ∧ se = 0 ∧ sn ≤ sd ∧ be = 0 ∧ n ≤ bv ∧ sumM ms = n ∧ E = 0) := by
      have h9 := HSE.out
      cases tb
      · left; refine ⟨rfl, ?_⟩; rw [← h9, if_neg (by simp)]
      · cases nb
        · right; left; refine ⟨rfl, rfl, ?_⟩; rw [← h9, if_neg (by simp)]
        · right; right
          by_cases e1 : se = 0
          · by_cases e2 : sn ≤ sd
            · rcases hbe3 with e3 | e3 | e3
              · rw [if_pos ⟨hn1, rfl, rfl, e1, e2, by omega⟩, if_neg (by omega)] at h9
                by_cases e4 : bv < n
                · rw [if_pos e4] at h9
                  exact .inr (.inr (.inr (.inr (.inl ⟨rfl, rfl, e1, e2, e3, e4, h9.symm⟩))))
                · rw [if_neg e4] at h9
                  by_cases e5 : sumM ms = n
                  · rw [if_pos e5] at h9
                    exact .inr (.inr (.inr (.inr (.inr (.inr ⟨rfl, rfl, e1, e2, e3, by omega, e5, h9.symm⟩)))))
                  · rw [if_neg e5] at h9
                    exact .inr (.inr (.inr (.inr (.inr (.inl ⟨rfl, rfl, e1, e2, e3, by omega, e5, h9.symm⟩)))))
              · rw [if_neg (fun h => h.2.2.2.2.2 e3)] at h9
                exact .inr (.inr (.inl ⟨rfl, rfl, e1, e2, e3, h9.symm⟩))
              · rw [if_pos ⟨hn1, rfl, rfl, e1, e2, by omega⟩, if_pos (by omega), e3] at h9
                exact .inr (.inr (.inr (.inl ⟨rfl, rfl, e1, e2, e3, h9.symm⟩)))
            · rw [if_neg (fun h => e2 h.2.2.2.2.1)] at h9
              exact .inr (.inl ⟨rfl, rfl, e1, by omega, h9.symm⟩)
          · rw [if_neg (fun h => e1 h.2.2.2.1)] at h9
            exact .inl ⟨rfl, rfl, e1, h9.symm⟩
    have htm : tb = true → tv = sumM ms := fun h => by
      rw [← HE.out.2.2.1]; unfold totV; rw [if_pos (HE.out.2.2.2.1.trans h)]
    have Htm := Lib.hid htm
    have hL : E ≠ 0 → resaleL n ls total cn cd sn sd pn ms = [] := fun h => by unfold resaleL; rw [hE, if_neg h]
    have HLn := Lib.hid hL
    have hL1 : E = 0 → resaleL n ls total cn cd sn sd pn ms = payL ms (-1) ++ postL [((2, noName), sv), ((6, pn), n - sv)] := fun h => by unfold resaleL; rw [hE, if_pos h, HS1.out]
    have HL1 := Lib.hid hL1
    clear HSE hE htm hL hL1 hbe3
    rcases hcase with ⟨rfl, rfl⟩ | ⟨rfl, rfl, rfl⟩ | ⟨rfl, rfl, q1, rfl⟩ | ⟨rfl, rfl, rfl, q1, rfl⟩ | ⟨rfl, rfl, rfl, q1, rfl, rfl⟩ | ⟨rfl, rfl, rfl, q1, rfl, rfl⟩ | ⟨rfl, rfl, rfl, q1, rfl, q2, rfl⟩ | ⟨rfl, rfl, rfl, q1, rfl, q2, q3, rfl⟩ | ⟨rfl, rfl, rfl, q1, rfl, q2, q3, rfl⟩
    · rw [HLn.out (by decide)]
      clear HLn HL1 Htm HE
      go_enter Try.func14, Try.ntmps14
      go_wp2_with (first
        | (go_at_call 26; refine Calls.mono (Htot.out _ ?bel) ?_; (case bel => (repeat (first | with_reducible exact Below.refl _ _ | with_reducible assumption | with_reducible refine Below.alloc0 ?_ _ | with_reducible refine Below.ext0 ?_ _ | with_reducible refine Below.drew ?_ | with_reducible refine below_drewN ?_ _ | (with_reducible refine Below.setCell (hp := ?hp) ?_ _; case hp => (first | (simp; done) | (simp; omega)))))); rintro e w' ⟨rfl, hb⟩; (first | (obtain ⟨u, rfl⟩ := ext_more hb; clear hb) | (obtain ⟨u, rfl⟩ := ext_more_alloc hb; clear hb) | (obtain ⟨u, rfl⟩ := ext_of hb; clear hb)))
        | (go_at_call 22; refine Calls.mono (Htop.out _ ?bel) ?_; (case bel => (repeat (first | with_reducible exact Below.refl _ _ | with_reducible assumption | with_reducible refine Below.alloc0 ?_ _ | with_reducible refine Below.ext0 ?_ _ | with_reducible refine Below.drew ?_ | with_reducible refine below_drewN ?_ _ | (with_reducible refine Below.setCell (hp := ?hp) ?_ _; case hp => (first | (simp; done) | (simp; omega)))))); rintro e w' ⟨rfl, hb⟩; (first | (obtain ⟨u, rfl⟩ := ext_more hb; clear hb) | (obtain ⟨u, rfl⟩ := ext_more_alloc hb; clear hb) | (obtain ⟨u, rfl⟩ := ext_of hb; clear hb)))
        | (go_at_call 23; refine Calls.mono (share_two _ _ _ _ _ _ HS1 HS2) ?_; rintro e w' ⟨rfl, hb⟩; (first | (obtain ⟨u, rfl⟩ := ext_more hb; clear hb) | (obtain ⟨u, rfl⟩ := ext_more_alloc hb; clear hb) | (obtain ⟨u, rfl⟩ := ext_of hb; clear hb)))
        | (go_at_call 28; refine Calls.mono (Hnam.out _) ?_; rintro e w' ⟨rfl, rfl⟩))
      all_goals exact bodyPost_ret (v := .tuple #[.agg #[.int .i64 0, .slice none 0 0], .int .i64 1]) (by simp [results, Try.results14, go_sem]) rfl (booked_none (by (repeat (first | with_reducible exact Below.refl _ _ | with_reducible assumption | with_reducible refine Below.alloc0 ?_ _ | with_reducible refine Below.ext0 ?_ _ | with_reducible refine Below.drew ?_ | with_reducible refine below_drewN ?_ _ | (with_reducible refine Below.setCell (hp := ?hp) ?_ _; case hp => (first | (simp; done) | (simp; omega)))))) rfl)
    · rw [HLn.out (by decide)]
      clear HLn HL1 Htm HE
      go_enter Try.func14, Try.ntmps14
      go_wp2_with (first
        | (go_at_call 26; refine Calls.mono (Htot.out _ ?bel) ?_; (case bel => (repeat (first | with_reducible exact Below.refl _ _ | with_reducible assumption | with_reducible refine Below.alloc0 ?_ _ | with_reducible refine Below.ext0 ?_ _ | with_reducible refine Below.drew ?_ | with_reducible refine below_drewN ?_ _ | (with_reducible refine Below.setCell (hp := ?hp) ?_ _; case hp => (first | (simp; done) | (simp; omega)))))); rintro e w' ⟨rfl, hb⟩; (first | (obtain ⟨u, rfl⟩ := ext_more hb; clear hb) | (obtain ⟨u, rfl⟩ := ext_more_alloc hb; clear hb) | (obtain ⟨u, rfl⟩ := ext_of hb; clear hb)))
        | (go_at_call 22; refine Calls.mono (Htop.out _ ?bel) ?_; (case bel => (repeat (first | with_reducible exact Below.refl _ _ | with_reducible assumption | with_reducible refine Below.alloc0 ?_ _ | with_reducible refine Below.ext0 ?_ _ | with_reducible refine Below.drew ?_ | with_reducible refine below_drewN ?_ _ | (with_reducible refine Below.setCell (hp := ?hp) ?_ _; case hp => (first | (simp; done) | (simp; omega)))))); rintro e w' ⟨rfl, hb⟩; (first | (obtain ⟨u, rfl⟩ := ext_more hb; clear hb) | (obtain ⟨u, rfl⟩ := ext_more_alloc hb; clear hb) | (obtain ⟨u, rfl⟩ := ext_of hb; clear hb)))
        | (go_at_call 23; refine Calls.mono (share_two _ _ _ _ _ _ HS1 HS2) ?_; rintro e w' ⟨rfl, hb⟩; (first | (obtain ⟨u, rfl⟩ := ext_more hb; clear hb) | (obtain ⟨u, rfl⟩ := ext_more_alloc hb; clear hb) | (obtain ⟨u, rfl⟩ := ext_of hb; clear hb)))
        | (go_at_call 28; refine Calls.mono (Hnam.out _) ?_; rintro e w' ⟨rfl, rfl⟩))
      all_goals exact bodyPost_ret (v := .tuple #[.agg #[.int .i64 0, .slice none 0 0], .int .i64 1]) (by simp [results, Try.results14, go_sem]) rfl (booked_none (by (repeat (first | with_reducible exact Below.refl _ _ | with_reducible assumption | with_reducible refine Below.alloc0 ?_ _ | with_reducible refine Below.ext0 ?_ _ | with_reducible refine Below.drew ?_ | with_reducible refine below_drewN ?_ _ | (with_reducible refine Below.setCell (hp := ?hp) ?_ _; case hp => (first | (simp; done) | (simp; omega)))))) rfl)
    · rw [HLn.out (by decide)]
      clear HLn HL1 Htm HE
      go_enter Try.func14, Try.ntmps14
      go_wp2_with (first
        | (go_at_call 26; refine Calls.mono (Htot.out _ ?bel) ?_; (case bel => (repeat (first | with_reducible exact Below.refl _ _ | with_reducible assumption | with_reducible refine Below.alloc0 ?_ _ | with_reducible refine Below.ext0 ?_ _ | with_reducible refine Below.drew ?_ | with_reducible refine below_drewN ?_ _ | (with_reducible refine Below.setCell (hp := ?hp) ?_ _; case hp => (first | (simp; done) | (simp; omega)))))); rintro e w' ⟨rfl, hb⟩; (first | (obtain ⟨u, rfl⟩ := ext_more hb; clear hb) | (obtain ⟨u, rfl⟩ := ext_more_alloc hb; clear hb) | (obtain ⟨u, rfl⟩ := ext_of hb; clear hb)))
        | (go_at_call 22; refine Calls.mono (Htop.out _ ?bel) ?_; (case bel => (repeat (first | with_reducible exact Below.refl _ _ | with_reducible assumption | with_reducible refine Below.alloc0 ?_ _ | with_reducible refine Below.ext0 ?_ _ | with_reducible refine Below.drew ?_ | with_reducible refine below_drewN ?_ _ | (with_reducible refine Below.setCell (hp := ?hp) ?_ _; case hp => (first | (simp; done) | (simp; omega)))))); rintro e w' ⟨rfl, hb⟩; (first | (obtain ⟨u, rfl⟩ := ext_more hb; clear hb) | (obtain ⟨u, rfl⟩ := ext_more_alloc hb; clear hb) | (obtain ⟨u, rfl⟩ := ext_of hb; clear hb)))
        | (go_at_call 23; refine Calls.mono (share_two _ _ _ _ _ _ HS1 HS2) ?_; rintro e w' ⟨rfl, hb⟩; (first | (obtain ⟨u, rfl⟩ := ext_more hb; clear hb) | (obtain ⟨u, rfl⟩ := ext_more_alloc hb; clear hb) | (obtain ⟨u, rfl⟩ := ext_of hb; clear hb)))
        | (go_at_call 28; refine Calls.mono (Hnam.out _) ?_; rintro e w' ⟨rfl, rfl⟩))
      all_goals exact bodyPost_ret (v := .tuple #[.agg #[.int .i64 0, .slice none 0 0], .int .i64 1]) (by simp [results, Try.results14, go_sem]) rfl (booked_none (by (repeat (first | with_reducible exact Below.refl _ _ | with_reducible assumption | with_reducible refine Below.alloc0 ?_ _ | with_reducible refine Below.ext0 ?_ _ | with_reducible refine Below.drew ?_ | with_reducible refine below_drewN ?_ _ | (with_reducible refine Below.setCell (hp := ?hp) ?_ _; case hp => (first | (simp; done) | (simp; omega)))))) rfl)
    · rw [HLn.out (by decide)]
      clear HLn HL1 Htm HE
      go_enter Try.func14, Try.ntmps14
      go_wp2_with (first
        | (go_at_call 26; refine Calls.mono (Htot.out _ ?bel) ?_; (case bel => (repeat (first | with_reducible exact Below.refl _ _ | with_reducible assumption | with_reducible refine Below.alloc0 ?_ _ | with_reducible refine Below.ext0 ?_ _ | with_reducible refine Below.drew ?_ | with_reducible refine below_drewN ?_ _ | (with_reducible refine Below.setCell (hp := ?hp) ?_ _; case hp => (first | (simp; done) | (simp; omega)))))); rintro e w' ⟨rfl, hb⟩; (first | (obtain ⟨u, rfl⟩ := ext_more hb; clear hb) | (obtain ⟨u, rfl⟩ := ext_more_alloc hb; clear hb) | (obtain ⟨u, rfl⟩ := ext_of hb; clear hb)))
        | (go_at_call 22; refine Calls.mono (Htop.out _ ?bel) ?_; (case bel => (repeat (first | with_reducible exact Below.refl _ _ | with_reducible assumption | with_reducible refine Below.alloc0 ?_ _ | with_reducible refine Below.ext0 ?_ _ | with_reducible refine Below.drew ?_ | with_reducible refine below_drewN ?_ _ | (with_reducible refine Below.setCell (hp := ?hp) ?_ _; case hp => (first | (simp; done) | (simp; omega)))))); rintro e w' ⟨rfl, hb⟩; (first | (obtain ⟨u, rfl⟩ := ext_more hb; clear hb) | (obtain ⟨u, rfl⟩ := ext_more_alloc hb; clear hb) | (obtain ⟨u, rfl⟩ := ext_of hb; clear hb)))
        | (go_at_call 23; refine Calls.mono (share_two _ _ _ _ _ _ HS1 HS2) ?_; rintro e w' ⟨rfl, hb⟩; (first | (obtain ⟨u, rfl⟩ := ext_more hb; clear hb) | (obtain ⟨u, rfl⟩ := ext_more_alloc hb; clear hb) | (obtain ⟨u, rfl⟩ := ext_of hb; clear hb)))
        | (go_at_call 28; refine Calls.mono (Hnam.out _) ?_; rintro e w' ⟨rfl, rfl⟩))
      all_goals exact bodyPost_ret (v := .tuple #[.agg #[.int .i64 0, .slice none 0 0], .int .i64 1]) (by simp [results, Try.results14, go_sem]) rfl (booked_none (by (repeat (first | with_reducible exact Below.refl _ _ | with_reducible assumption | with_reducible refine Below.alloc0 ?_ _ | with_reducible refine Below.ext0 ?_ _ | with_reducible refine Below.drew ?_ | with_reducible refine below_drewN ?_ _ | (with_reducible refine Below.setCell (hp := ?hp) ?_ _; case hp => (first | (simp; done) | (simp; omega)))))) rfl)
    · rw [HLn.out (by decide)]
      clear HLn HL1 Htm HE
      go_enter Try.func14, Try.ntmps14
      go_wp2_with (first
        | (go_at_call 26; refine Calls.mono (Htot.out _ ?bel) ?_; (case bel => (repeat (first | with_reducible exact Below.refl _ _ | with_reducible assumption | with_reducible refine Below.alloc0 ?_ _ | with_reducible refine Below.ext0 ?_ _ | with_reducible refine Below.drew ?_ | with_reducible refine below_drewN ?_ _ | (with_reducible refine Below.setCell (hp := ?hp) ?_ _; case hp => (first | (simp; done) | (simp; omega)))))); rintro e w' ⟨rfl, hb⟩; (first | (obtain ⟨u, rfl⟩ := ext_more hb; clear hb) | (obtain ⟨u, rfl⟩ := ext_more_alloc hb; clear hb) | (obtain ⟨u, rfl⟩ := ext_of hb; clear hb)))
        | (go_at_call 22; refine Calls.mono (Htop.out _ ?bel) ?_; (case bel => (repeat (first | with_reducible exact Below.refl _ _ | with_reducible assumption | with_reducible refine Below.alloc0 ?_ _ | with_reducible refine Below.ext0 ?_ _ | with_reducible refine Below.drew ?_ | with_reducible refine below_drewN ?_ _ | (with_reducible refine Below.setCell (hp := ?hp) ?_ _; case hp => (first | (simp; done) | (simp; omega)))))); rintro e w' ⟨rfl, hb⟩; (first | (obtain ⟨u, rfl⟩ := ext_more hb; clear hb) | (obtain ⟨u, rfl⟩ := ext_more_alloc hb; clear hb) | (obtain ⟨u, rfl⟩ := ext_of hb; clear hb)))
        | (go_at_call 23; refine Calls.mono (share_two _ _ _ _ _ _ HS1 HS2) ?_; rintro e w' ⟨rfl, hb⟩; (first | (obtain ⟨u, rfl⟩ := ext_more hb; clear hb) | (obtain ⟨u, rfl⟩ := ext_more_alloc hb; clear hb) | (obtain ⟨u, rfl⟩ := ext_of hb; clear hb)))
        | (go_at_call 28; refine Calls.mono (Hnam.out _) ?_; rintro e w' ⟨rfl, rfl⟩))
      all_goals exact bodyPost_ret (v := .tuple #[.agg #[.int .i64 0, .slice none 0 0], .int .i64 1]) (by simp [results, Try.results14, go_sem]) rfl (booked_none (by (repeat (first | with_reducible exact Below.refl _ _ | with_reducible assumption | with_reducible refine Below.alloc0 ?_ _ | with_reducible refine Below.ext0 ?_ _ | with_reducible refine Below.drew ?_ | with_reducible refine below_drewN ?_ _ | (with_reducible refine Below.setCell (hp := ?hp) ?_ _; case hp => (first | (simp; done) | (simp; omega)))))) rfl)
    · rw [HLn.out (by decide)]
      clear HLn HL1 Htm HE
      go_enter Try.func14, Try.ntmps14
      go_wp2_with (first
        | (go_at_call 26; refine Calls.mono (Htot.out _ ?bel) ?_; (case bel => (repeat (first | with_reducible exact Below.refl _ _ | with_reducible assumption | with_reducible refine Below.alloc0 ?_ _ | with_reducible refine Below.ext0 ?_ _ | with_reducible refine Below.drew ?_ | with_reducible refine below_drewN ?_ _ | (with_reducible refine Below.setCell (hp := ?hp) ?_ _; case hp => (first | (simp; done) | (simp; omega)))))); rintro e w' ⟨rfl, hb⟩; (first | (obtain ⟨u, rfl⟩ := ext_more hb; clear hb) | (obtain ⟨u, rfl⟩ := ext_more_alloc hb; clear hb) | (obtain ⟨u, rfl⟩ := ext_of hb; clear hb)))
        | (go_at_call 22; refine Calls.mono (Htop.out _ ?bel) ?_; (case bel => (repeat (first | with_reducible exact Below.refl _ _ | with_reducible assumption | with_reducible refine Below.alloc0 ?_ _ | with_reducible refine Below.ext0 ?_ _ | with_reducible refine Below.drew ?_ | with_reducible refine below_drewN ?_ _ | (with_reducible refine Below.setCell (hp := ?hp) ?_ _; case hp => (first | (simp; done) | (simp; omega)))))); rintro e w' ⟨rfl, hb⟩; (first | (obtain ⟨u, rfl⟩ := ext_more hb; clear hb) | (obtain ⟨u, rfl⟩ := ext_more_alloc hb; clear hb) | (obtain ⟨u, rfl⟩ := ext_of hb; clear hb)))
        | (go_at_call 23; refine Calls.mono (share_two _ _ _ _ _ _ HS1 HS2) ?_; rintro e w' ⟨rfl, hb⟩; (first | (obtain ⟨u, rfl⟩ := ext_more hb; clear hb) | (obtain ⟨u, rfl⟩ := ext_more_alloc hb; clear hb) | (obtain ⟨u, rfl⟩ := ext_of hb; clear hb)))
        | (go_at_call 28; refine Calls.mono (Hnam.out _) ?_; rintro e w' ⟨rfl, rfl⟩))
      all_goals exact bodyPost_ret (v := .tuple #[.agg #[.int .i64 0, .slice none 0 0], .int .i64 2]) (by simp [results, Try.results14, go_sem]) rfl (booked_none (by (repeat (first | with_reducible exact Below.refl _ _ | with_reducible assumption | with_reducible refine Below.alloc0 ?_ _ | with_reducible refine Below.ext0 ?_ _ | with_reducible refine Below.drew ?_ | with_reducible refine below_drewN ?_ _ | (with_reducible refine Below.setCell (hp := ?hp) ?_ _; case hp => (first | (simp; done) | (simp; omega)))))) rfl)
    · rw [HLn.out (by decide)]
      clear HLn HL1 Htm HE
      go_enter Try.func14, Try.ntmps14
      go_wp2_with (first
        | (go_at_call 26; refine Calls.mono (Htot.out _ ?bel) ?_; (case bel => (repeat (first | with_reducible exact Below.refl _ _ | with_reducible assumption | with_reducible refine Below.alloc0 ?_ _ | with_reducible refine Below.ext0 ?_ _ | with_reducible refine Below.drew ?_ | with_reducible refine below_drewN ?_ _ | (with_reducible refine Below.setCell (hp := ?hp) ?_ _; case hp => (first | (simp; done) | (simp; omega)))))); rintro e w' ⟨rfl, hb⟩; (first | (obtain ⟨u, rfl⟩ := ext_more hb; clear hb) | (obtain ⟨u, rfl⟩ := ext_more_alloc hb; clear hb) | (obtain ⟨u, rfl⟩ := ext_of hb; clear hb)))
        | (go_at_call 22; refine Calls.mono (Htop.out _ ?bel) ?_; (case bel => (repeat (first | with_reducible exact Below.refl _ _ | with_reducible assumption | with_reducible refine Below.alloc0 ?_ _ | with_reducible refine Below.ext0 ?_ _ | with_reducible refine Below.drew ?_ | with_reducible refine below_drewN ?_ _ | (with_reducible refine Below.setCell (hp := ?hp) ?_ _; case hp => (first | (simp; done) | (simp; omega)))))); rintro e w' ⟨rfl, hb⟩; (first | (obtain ⟨u, rfl⟩ := ext_more hb; clear hb) | (obtain ⟨u, rfl⟩ := ext_more_alloc hb; clear hb) | (obtain ⟨u, rfl⟩ := ext_of hb; clear hb)))
        | (go_at_call 23; refine Calls.mono (share_two _ _ _ _ _ _ HS1 HS2) ?_; rintro e w' ⟨rfl, hb⟩; (first | (obtain ⟨u, rfl⟩ := ext_more hb; clear hb) | (obtain ⟨u, rfl⟩ := ext_more_alloc hb; clear hb) | (obtain ⟨u, rfl⟩ := ext_of hb; clear hb)))
        | (go_at_call 28; refine Calls.mono (Hnam.out _) ?_; rintro e w' ⟨rfl, rfl⟩))
      all_goals exact bodyPost_ret (v := .tuple #[.agg #[.int .i64 0, .slice none 0 0], .int .i64 15]) (by simp [results, Try.results14, go_sem]) rfl (booked_none (by (repeat (first | with_reducible exact Below.refl _ _ | with_reducible assumption | with_reducible refine Below.alloc0 ?_ _ | with_reducible refine Below.ext0 ?_ _ | with_reducible refine Below.drew ?_ | with_reducible refine below_drewN ?_ _ | (with_reducible refine Below.setCell (hp := ?hp) ?_ _; case hp => (first | (simp; done) | (simp; omega)))))) rfl)
    · rw [HLn.out (by decide)]
      have q4 : tv ≠ n := fun h => q3 ((Htm.out rfl).symm.trans h)
      clear q3
      clear HLn HL1 Htm HE
      go_enter Try.func14, Try.ntmps14
      go_wp2_with (first
        | (go_at_call 26; refine Calls.mono (Htot.out _ ?bel) ?_; (case bel => (repeat (first | with_reducible exact Below.refl _ _ | with_reducible assumption | with_reducible refine Below.alloc0 ?_ _ | with_reducible refine Below.ext0 ?_ _ | with_reducible refine Below.drew ?_ | with_reducible refine below_drewN ?_ _ | (with_reducible refine Below.setCell (hp := ?hp) ?_ _; case hp => (first | (simp; done) | (simp; omega)))))); rintro e w' ⟨rfl, hb⟩; (first | (obtain ⟨u, rfl⟩ := ext_more hb; clear hb) | (obtain ⟨u, rfl⟩ := ext_more_alloc hb; clear hb) | (obtain ⟨u, rfl⟩ := ext_of hb; clear hb)))
        | (go_at_call 22; refine Calls.mono (Htop.out _ ?bel) ?_; (case bel => (repeat (first | with_reducible exact Below.refl _ _ | with_reducible assumption | with_reducible refine Below.alloc0 ?_ _ | with_reducible refine Below.ext0 ?_ _ | with_reducible refine Below.drew ?_ | with_reducible refine below_drewN ?_ _ | (with_reducible refine Below.setCell (hp := ?hp) ?_ _; case hp => (first | (simp; done) | (simp; omega)))))); rintro e w' ⟨rfl, hb⟩; (first | (obtain ⟨u, rfl⟩ := ext_more hb; clear hb) | (obtain ⟨u, rfl⟩ := ext_more_alloc hb; clear hb) | (obtain ⟨u, rfl⟩ := ext_of hb; clear hb)))
        | (go_at_call 23; refine Calls.mono (share_two _ _ _ _ _ _ HS1 HS2) ?_; rintro e w' ⟨rfl, hb⟩; (first | (obtain ⟨u, rfl⟩ := ext_more hb; clear hb) | (obtain ⟨u, rfl⟩ := ext_more_alloc hb; clear hb) | (obtain ⟨u, rfl⟩ := ext_of hb; clear hb)))
        | (go_at_call 28; refine Calls.mono (Hnam.out _) ?_; rintro e w' ⟨rfl, rfl⟩))
      all_goals exact bodyPost_ret (v := .tuple #[.agg #[.int .i64 0, .slice none 0 0], .int .i64 19]) (by simp [results, Try.results14, go_sem]) rfl (booked_none (by (repeat (first | with_reducible exact Below.refl _ _ | with_reducible assumption | with_reducible refine Below.alloc0 ?_ _ | with_reducible refine Below.ext0 ?_ _ | with_reducible refine Below.drew ?_ | with_reducible refine below_drewN ?_ _ | (with_reducible refine Below.setCell (hp := ?hp) ?_ _; case hp => (first | (simp; done) | (simp; omega)))))) rfl)
    · rw [HL1.out rfl]
      obtain rfl : tv = n := (Htm.out rfl).trans q3
      obtain ⟨⟨u1, u2⟩, _, ⟨u3, u4⟩, _⟩ := share_zero HS2.out
      rw [HS1.out] at u3 u4
      obtain ⟨hm12, hok⟩ := totB_out HE.out.2.2.2.1
      have Hok := Lib.hid (okM_in hok)
      clear HLn HL1 Htm q3 hok
      go_enter Try.func14, Try.ntmps14
      go_upto_region 13 with (first
        | (go_at_call 26; refine Calls.mono (Htot.out _ ?bel) ?_; (case bel => (repeat (first | with_reducible exact Below.refl _ _ | with_reducible assumption | with_reducible refine Below.alloc0 ?_ _ | with_reducible refine Below.ext0 ?_ _ | with_reducible refine Below.drew ?_ | with_reducible refine below_drewN ?_ _ | (with_reducible refine Below.setCell (hp := ?hp) ?_ _; case hp => (first | (simp; done) | (simp; omega)))))); rintro e w' ⟨rfl, hb⟩; (first | (obtain ⟨u, rfl⟩ := ext_more hb; clear hb) | (obtain ⟨u, rfl⟩ := ext_more_alloc hb; clear hb) | (obtain ⟨u, rfl⟩ := ext_of hb; clear hb)))
        | (go_at_call 22; refine Calls.mono (Htop.out _ ?bel) ?_; (case bel => (repeat (first | with_reducible exact Below.refl _ _ | with_reducible assumption | with_reducible refine Below.alloc0 ?_ _ | with_reducible refine Below.ext0 ?_ _ | with_reducible refine Below.drew ?_ | with_reducible refine below_drewN ?_ _ | (with_reducible refine Below.setCell (hp := ?hp) ?_ _; case hp => (first | (simp; done) | (simp; omega)))))); rintro e w' ⟨rfl, hb⟩; (first | (obtain ⟨u, rfl⟩ := ext_more hb; clear hb) | (obtain ⟨u, rfl⟩ := ext_more_alloc hb; clear hb) | (obtain ⟨u, rfl⟩ := ext_of hb; clear hb)))
        | (go_at_call 23; refine Calls.mono (share_two _ _ _ _ _ _ HS1 HS2) ?_; rintro e w' ⟨rfl, hb⟩; (first | (obtain ⟨u, rfl⟩ := ext_more hb; clear hb) | (obtain ⟨u, rfl⟩ := ext_more_alloc hb; clear hb) | (obtain ⟨u, rfl⟩ := ext_of hb; clear hb)))
        | (go_at_call 28; refine Calls.mono (Hnam.out _) ?_; rintro e w' ⟨rfl, rfl⟩))
      refine forget (fun X => Below w.heap.size w X ∧ Bk X (w.heap.size + 2) #[.int .i64 0, .slice none 0 0] 34 ∧ BkIs X (ext (((w.alloc (.cells #[.slice A k cap, .int .i64 total] 24)).alloc (.cells #[.bool ok, .bool tg, .bool si, .int .i64 lim, .int .i64 price, .int .i64 fn, .int .i64 fd, .int .i64 tn, .int .i64 td, .int .i64 cn, .int .i64 cd, .int .i64 sn, .int .i64 sd, .int .i64 rn, .int .i64 rd, .int .i64 y] 28)).alloc (.cells #[.int .i64 0, .slice none 0 0] 34)) u).heap.size ((ext (((w.alloc (.cells #[.slice A k cap, .int .i64 total] 24)).alloc (.cells #[.bool ok, .bool tg, .bool si, .int .i64 lim, .int .i64 price, .int .i64 fn, .int .i64 fd, .int .i64 tn, .int .i64 td, .int .i64 cn, .int .i64 cd, .int .i64 sn, .int .i64 sd, .int .i64 rn, .int .i64 rd, .int .i64 y] 28)).alloc (.cells #[.int .i64 0, .slice none 0 0] 34)) u).heap.size + 1) [] (.slice none 0 0) ∧ w.heap.size + 2 < (ext (((w.alloc (.cells #[.slice A k cap, .int .i64 total] 24)).alloc (.cells #[.bool ok, .bool tg, .bool si, .int .i64 lim, .int .i64 price, .int .i64 fn, .int .i64 fd, .int .i64 tn, .int .i64 td, .int .i64 cn, .int .i64 cd, .int .i64 sn, .int .i64 sd, .int .i64 rn, .int .i64 rd, .int .i64 y] 28)).alloc (.cells #[.int .i64 0, .slice none 0 0] 34)) u).heap.size ∧ (ext (((w.alloc (.cells #[.slice A k cap, .int .i64 total] 24)).alloc (.cells #[.bool ok, .bool tg, .bool si, .int .i64 lim, .int .i64 price, .int .i64 fn, .int .i64 fd, .int .i64 tn, .int .i64 td, .int .i64 cn, .int .i64 cd, .int .i64 sn, .int .i64 sd, .int .i64 rn, .int .i64 rd, .int .i64 y] 28)).alloc (.cells #[.int .i64 0, .slice none 0 0] 34)) u).heap.size + 1 ≤ X.heap.size) ⟨by (repeat (first | with_reducible exact Below.refl _ _ | with_reducible assumption | with_reducible refine Below.alloc0 ?_ _ | with_reducible refine Below.ext0 ?_ _ | with_reducible refine Below.drew ?_ | with_reducible refine below_drewN ?_ _ | (with_reducible refine Below.setCell (hp := ?hp) ?_ _; case hp => (first | (simp; done) | (simp; omega))))), ((bk_new_at _ _ _ _ (by simp)).ext _).alloc _, ⟨Bk.new _ _ _, OwnL.nil⟩, by have := size_ext (((w.alloc (.cells #[.slice A k cap, .int .i64 total] 24)).alloc (.cells #[.bool ok, .bool tg, .bool si, .int .i64 lim, .int .i64 price, .int .i64 fn, .int .i64 fd, .int .i64 tn, .int .i64 td, .int .i64 cn, .int .i64 cd, .int .i64 sn, .int .i64 sd, .int .i64 rn, .int .i64 rd, .int .i64 y] 28)).alloc (.cells #[.int .i64 0, .slice none 0 0] 34)) u; simp at this; omega, by simp⟩ ?_
      generalize (ext (((w.alloc (.cells #[.slice A k cap, .int .i64 total] 24)).alloc (.cells #[.bool ok, .bool tg, .bool si, .int .i64 lim, .int .i64 price, .int .i64 fn, .int .i64 fd, .int .i64 tn, .int .i64 td, .int .i64 cn, .int .i64 cd, .int .i64 sn, .int .i64 sd, .int .i64 rn, .int .i64 rd, .int .i64 y] 28)).alloc (.cells #[.int .i64 0, .slice none 0 0] 34)) u).heap.size = bb at *
      rintro X ⟨hw, hr, hb, hlt, hX⟩
      have HX := Lib.hid (And.intro hw hr)
      clear Htot Htop Hnam
      go_wp2_with fail
      refine (pay_any bb (bb + 1) (.slice none 0 0) [] A2 ms cap2 n2 (-1) X B hb (by omega) hX (HE.out.2.1.keep (hw.mono hB) (Nat.le_refl _)) (by omega) hn2 (by simp; omega) Hok.out (.inr rfl)).mono ?_
      rintro e X2 ⟨rfl, v2, z1, z2, z3⟩
      have r2 := HX.out.2.only z2 (by simp [Value.ownBlock]; omega)
      have hw2 : Below w.heap.size w X2 := HX.out.1.trans (z2.to_below (fun g hg => by simp [Value.ownBlock] at hg; omega) HX.out.1.size)
      rw [List.nil_append] at z1
      have hz2 := z2.size
      have H2 := Lib.hid (And.intro hw2 (And.intro r2 z1))
      clear hw hr hb HX z1 z2 z3 hw2 r2
      obtain ⟨q1, hq1⟩ : ∃ q, payL ms (-1) = q := ⟨_, rfl⟩
      have hq1l : q1.length ≤ 12 := by
        rw [← hq1]
        have := payL_len ms (-1) ms.length
        rw [List.take_length] at this
        omega
      rw [hq1] at H2
      have Hq1 := Lib.hid hq1
      clear hq1
      go_wp2_with (go_at_call 32; refine (of_any _ _ _ _).mono ?_; rintro e w' ⟨rfl, hb⟩; (first | (obtain ⟨u, rfl⟩ := ext_more hb; clear hb) | (obtain ⟨u, rfl⟩ := ext_more_alloc hb; clear hb) | (obtain ⟨u, rfl⟩ := ext_of hb; clear hb)))
      have hb3 : Below X2.heap.size X2 (ext X2 u) := below_ext X2 u
      have hs3 := hb3.size
      have hx0 := H2.out.2.2.1.lt
      have hxo := H2.out.2.2.2.lt
      refine calls_forget (F := fun Y => BkIs Y bb (bb + 1) q1 v2 ∧ Elems tPst Y Y.heap.size (some ⟨(ext X2 u).heap.size, 0, none⟩) [((2, noName), sv), ((6, pn), (tv - sv))] ∧ Below X2.heap.size X2 Y ∧ Y.heap.size = (ext X2 u).heap.size + 1) ⟨?_, ?_, ?_, ?_⟩ ?_
      · exact ⟨(H2.out.2.2.1.below hb3).alloc _, (H2.out.2.2.2.below hb3 (by omega)).below (below_self _ _) (by omega)⟩
      · exact Elems.of_block (t := 55) [[.int .i64 2, .string noName, .int .i64 sv], [.int .i64 6, .string pn, .int .i64 (tv - sv)]] (Bk.new _ _ _) (by simp) rfl (fun i hi => by
          have h3 : i = 0 ∨ i = 1 := by simp at hi; omega
          have hnn : noName.size ≤ maxLen := by show 0 ≤ maxLen; omega
          rcases h3 with rfl | rfl
          · exact ⟨[.int .i64 2, .string noName], [.int .i64 sv], rfl, ⟨[.int .i64 2], [.string noName], rfl, ⟨rfl, by show _ ≤ (2:Int) ∧ (2:Int) ≤ _; omega⟩, ⟨rfl, hnn⟩⟩, ⟨rfl, by show _ ≤ sv ∧ sv ≤ _; omega⟩⟩
          · exact ⟨[.int .i64 6, .string pn], [.int .i64 (tv - sv)], rfl, ⟨[.int .i64 6], [.string pn], rfl, ⟨rfl, by show _ ≤ (6:Int) ∧ (6:Int) ≤ _; omega⟩, ⟨rfl, hpn⟩⟩, ⟨rfl, by show _ ≤ (tv - sv) ∧ (tv - sv) ≤ _; omega⟩⟩) rfl
      · exact hb3.trans (below_self _ _ |>.mono hs3)
      · simp
      rintro Y ⟨y1, y2, y3, y4⟩
      refine (post_any bb (bb + 1) v2 q1 (some ⟨(ext X2 u).heap.size, 0, none⟩) [((2, noName), sv), ((6, pn), (tv - sv))] 2 2 Y Y.heap.size y1 (by omega) (by omega) y2 (Nat.le_refl _) rfl 1000 (by omega) (by omega) (fun b hb => by
        simp at hb
        subst hb
        exact ⟨by omega, fun h => by have := hxo _ h; omega⟩)).mono ?_
      rintro e X4 ⟨rfl, v4, z1, z2, z3⟩
      change BkIs X4 bb (bb + 1) (q1 ++ postL [((2, noName), sv), ((6, pn), tv - sv)]) v4 at z1
      obtain ⟨q3, hq3⟩ : ∃ q, q1 ++ postL [((2, noName), sv), ((6, pn), tv - sv)] = q := ⟨_, rfl⟩
      rw [hq3] at z1
      have Hq3 := Lib.hid hq3
      clear hq3
      obtain ⟨A4, c4, rfl, hc4, hm4⟩ := z1.2.form
      have r4 : Bk X4 (w.heap.size + 2) _ _ := (H2.out.2.1.below y3).only z2 (by
        rintro (h | h)
        · omega
        · have := hxo _ h; omega)
      have hw4 : Below w.heap.size w X4 := (H2.out.1.trans (y3.mono (by have := H2.out.1.size; omega))).trans (z2.to_below (fun g hg => by
        rcases hg with h | h
        · omega
        · have := hxo _ h; omega) (by have := H2.out.1.size; omega))
      have cb := z1.1.cell
      have lb := z1.1.lt
      have fr := r4.free
      have cr := r4.cell
      have lr := r4.lt
      have HZ := Lib.hid (And.intro z1 (And.intro hw4 (And.intro hc4 hm4)))
      clear hs3 hx0 hxo hb3 y1 y2 y3 y4 z1 z2 z3 hc4 hm4 r4 hw4
      go_wp2_with fail
      have ho9 : Only (fun g => g = w.heap.size + 2) X4 ((X4.setCell ⟨w.heap.size + 2, 0, none⟩ (.int .i64 0)).setCell ⟨w.heap.size + 2, 1, none⟩ (.slice A4 q3.length c4)) := ((Only.refl (fun g => g = w.heap.size + 2) X4).set_ (p := ⟨w.heap.size + 2, 0, none⟩) (.inl rfl) _).set_ (p := ⟨w.heap.size + 2, 1, none⟩) (.inl rfl) _
      have hE9 := (HZ.out.1.2.only ho9 (fun g hg => by omega) (by omega) (fun g hg h => by have := HZ.out.1.2.lt g hg; omega)).elems (B2 := ((X4.setCell ⟨w.heap.size + 2, 0, none⟩ (.int .i64 0)).setCell ⟨w.heap.size + 2, 1, none⟩ (.slice A4 q3.length c4)).heap.size) (by omega) (Nat.le_refl _)
      have hB9 := HZ.out.2.1.trans (ho9.to_below (fun g hg => by omega) (HZ.out.2.1.size))
      rw [Hq1.out, Hq3.out]
      exact bodyPost_ret (v := .tuple #[.agg #[.int .i64 0, .slice A4 q3.length c4], .int .i64 0]) (by simp [results, Try.results14, go_sem, cr, fr, lr]) rfl (booked_some rfl hE9 HZ.out.2.2.1 HZ.out.2.2.2 hB9)
end
end Go.Proofs.Ytggmihnhdojepaa
