/- Layer 30 (title): formed, Message. -/
import Derived.Test.YtojkpoikamcgkaaDoorOwnI
import Derived.Test.YtojkpoikamcgkaaDoorPlanI
namespace Go.Proofs.YtojkpoikamcgkaaDoor
open Go.RowKit
set_option linter.unusedVariables false
set_option linter.unusedSimpArgs false
attribute [local go_sem] ext_cell ext_frozen lt_ext ext_drew

/-- Whether the head of a title is well-formed. -/
def headB (se sh pl : Int) (fi : ByteArray) (n : Nat) : Bool :=
  decide (0 ≤ sh) && decide (sh < 20) && decide (1 ≤ se - (sh + 1) * 10000) && decide (se - (sh + 1) * 10000 ≤ 9999) && decide (-1 ≤ pl) && decide (pl < 4000) && isL fi.data.toList && decide (n ≤ 50)
def formX (x : Tr) : Bool := decide (x.2.length = 18) && isL x.1.data.toList && noneL x.2
def formedB (se sh pl : Int) (fi : ByteArray) (ch : List Tr) : Bool := headB se sh pl fi ch.length && ch.all formX
theorem wrap64_in9 (n : Int) (h : -9223372036854775808 ≤ n ∧ n ≤ 9223372036854775807) : wrap64 n = n := by unfold wrap64; omega
set_option maxRecDepth 100000 in
set_option maxHeartbeats 2000000 in
theorem formed_any (se sh pl : Int) (fi : ByteArray) (A : Option Addr) (ch : List Tr) (cap : Nat) (w : World) (B : Nat) (h : Elems tTr w B A ch) (hB : B ≤ w.heap.size) (hl : ch.length ≤ 9223372036854775807)
    (hf : fi.size ≤ 9223372036854775807) (s1 : -9223372036854775808 ≤ se) (s2 : se ≤ 9223372036854775807) (s3 : -9223372036854775808 ≤ sh) (s4 : sh ≤ 9223372036854775807) (s5 : -9223372036854775808 ≤ pl) (s6 : pl ≤ 9223372036854775807) :
    Calls Tryd.prog 15 #[.agg #[.int .i64 se, .int .i64 sh, .int .i64 pl, .string fi, .slice A ch.length cap]] w fun e w' => e = .returned (.bool (formedB se sh pl fi ch)) ∧ Below w.heap.size w w' := by
  obtain ⟨r, hr⟩ : ∃ r, formedB se sh pl fi ch = r := ⟨_, rfl⟩
  rw [hr]
  have hB1 : Below w.heap.size w (w.alloc (.cells #[.int .i64 se, .int .i64 sh, .int .i64 pl, .string fi, .slice A ch.length cap] 24)) := below_self w _
  have h9 := h
  have HH := Lib.hid (And.intro (h.keep (hB1.mono hB) (Nat.le_refl _)) (And.intro hB1 hr))
  have b0 : Bk (w.alloc (.cells #[.int .i64 se, .int .i64 sh, .int .i64 pl, .string fi, .slice A ch.length cap] 24)) w.heap.size #[.int .i64 se, .int .i64 sh, .int .i64 pl, .string fi, .slice A ch.length cap] 24 := Bk.new _ _ _
  clear h hB1 hr
  go_enter Tryd.func15, Tryd.ntmps15
  go_upto_region 2 with (fail)
  have hK1 : 0 ≤ sh → sh < 20 → (decide (1 ≤ wrap64 (se - wrap64 (wrap64 (sh + 1) * 10000))) && decide (wrap64 (se - wrap64 (wrap64 (sh + 1) * 10000)) ≤ 9999)) = (decide (1 ≤ se - (sh + 1) * 10000) && decide (se - (sh + 1) * 10000 ≤ 9999)) := fun a b => by
    have e1 : wrap64 (sh + 1) = sh + 1 := wrap64_in9 _ ⟨by omega, by omega⟩
    have e2 : wrap64 (wrap64 (sh + 1) * 10000) = (sh + 1) * 10000 := by rw [e1]; exact wrap64_in9 _ ⟨by omega, by omega⟩
    rw [e2]
    by_cases hs : -9223372036854775808 ≤ se - (sh + 1) * 10000
    · rw [wrap64_in9 _ ⟨hs, by omega⟩]
    · rw [← Bool.decide_and, ← Bool.decide_and]
      have e3 : wrap64 (se - (sh + 1) * 10000) = se - (sh + 1) * 10000 + 18446744073709551616 := by unfold wrap64; omega
      rw [e3]
      exact decide_eq_decide.2 (by omega)
  have hK2 : -9223372036854775808 ≤ wrap64 (se - wrap64 (wrap64 (sh + 1) * 10000)) := by unfold wrap64; omega
  have hK3 : wrap64 (se - wrap64 (wrap64 (sh + 1) * 10000)) ≤ 9223372036854775807 := by unfold wrap64; omega
  generalize wrap64 (se - wrap64 (wrap64 (sh + 1) * 10000)) = K at *
  generalize wrap64 (wrap64 (sh + 1) * 10000) = K9 at *
  generalize wrap64 (sh + 1) = K8 at *
  have HK := Lib.hid hK1
  clear hK1
  by_cases c1 : 0 ≤ sh
  case neg =>
    have Hn := Lib.hid (show formedB se sh pl fi ch = false by unfold formedB headB; simp only [decide_eq_false c1, Bool.false_and, Bool.and_false])
    have c1' : sh < 0 := by omega
    go_wp2_with fail
    go_ret
    exact ⟨by rw [← HH.out.2.2, Hn.out]; rfl, HH.out.2.1⟩
  have c1' : ¬ sh < 0 := by omega
  by_cases c2 : sh < 20
  case neg =>
    have Hn := Lib.hid (show formedB se sh pl fi ch = false by unfold formedB headB; simp only [decide_eq_false c2, Bool.false_and, Bool.and_false])
    have c2' : 20 ≤ sh := by omega
    go_wp2_with fail
    go_ret
    exact ⟨by rw [← HH.out.2.2, Hn.out]; rfl, HH.out.2.1⟩
  have c2' : ¬ 20 ≤ sh := by omega
  by_cases c3 : 1 ≤ K
  case neg =>
    have Hn := Lib.hid (show formedB se sh pl fi ch = false by unfold formedB headB; rw [Bool.and_assoc (decide (0 ≤ sh) && decide (sh < 20)), ← HK.out c1 c2]; simp only [decide_eq_false c3, Bool.false_and, Bool.and_false])
    have c3' : K < 1 := by omega
    go_wp2_with fail
    go_ret
    exact ⟨by rw [← HH.out.2.2, Hn.out]; rfl, HH.out.2.1⟩
  have c3' : ¬ K < 1 := by omega
  by_cases c4 : K ≤ 9999
  case neg =>
    have Hn := Lib.hid (show formedB se sh pl fi ch = false by unfold formedB headB; rw [Bool.and_assoc (decide (0 ≤ sh) && decide (sh < 20)), ← HK.out c1 c2]; simp only [decide_eq_false c4, Bool.false_and, Bool.and_false])
    have c4' : 9999 < K := by omega
    go_wp2_with fail
    go_ret
    exact ⟨by rw [← HH.out.2.2, Hn.out]; rfl, HH.out.2.1⟩
  have c4' : ¬ 9999 < K := by omega
  by_cases c5 : -1 ≤ pl
  case neg =>
    have Hn := Lib.hid (show formedB se sh pl fi ch = false by unfold formedB headB; rw [Bool.and_assoc (decide (0 ≤ sh) && decide (sh < 20)), ← HK.out c1 c2]; simp only [decide_eq_false c5, Bool.false_and, Bool.and_false])
    have c5' : pl < -1 := by omega
    go_wp2_with fail
    go_ret
    exact ⟨by rw [← HH.out.2.2, Hn.out]; rfl, HH.out.2.1⟩
  have c5' : ¬ pl < -1 := by omega
  by_cases c6 : pl < 4000
  case neg =>
    have Hn := Lib.hid (show formedB se sh pl fi ch = false by unfold formedB headB; rw [Bool.and_assoc (decide (0 ≤ sh) && decide (sh < 20)), ← HK.out c1 c2]; simp only [decide_eq_false c6, Bool.false_and, Bool.and_false])
    have c6' : 4000 ≤ pl := by omega
    go_wp2_with fail
    go_ret
    exact ⟨by rw [← HH.out.2.2, Hn.out]; rfl, HH.out.2.1⟩
  have c6' : ¬ 4000 ≤ pl := by omega
  have hh1 : headB se sh pl fi ch.length = (isL fi.data.toList && decide (ch.length ≤ 50)) := by
    unfold headB
    rw [Bool.and_assoc (decide (0 ≤ sh) && decide (sh < 20)), ← HK.out c1 c2]
    simp [c1, c2, c3, c4, c5, c6]
  have hfi := fun (X : World) => is_any fi X hf
  cases hi : isL fi.data.toList with
  | false =>
    rw [hi] at hfi hh1
    have H1 := Lib.hid (And.intro hfi hh1)
    clear hfi hh1 hi
    go_wp2_with (go_at_call 19; refine (H1.out.1 _).mono ?_; rintro e w2 ⟨rfl, z1⟩; have HZ := Lib.hid z1; clear z1)
    go_ret
    exact ⟨by rw [← HH.out.2.2]; unfold formedB; rw [H1.out.2]; rfl, HH.out.2.1.trans (HZ.out.mono (by simp))⟩
  | true =>
  rw [hi] at hfi hh1
  have H1 := Lib.hid (And.intro hfi hh1)
  clear hfi hh1 hi
  by_cases c8 : ch.length ≤ 50
  case neg =>
    have c8' : 50 < (ch.length : Int) := by omega
    go_wp2_with (go_at_call 19; refine (H1.out.1 _).mono ?_; rintro e w2 ⟨rfl, z1⟩; have HZ := Lib.hid z1; have b1 := b0.below z1; have c9 := b1.cell 4; have l9 := b1.lt; clear z1)
    go_ret
    exact ⟨by rw [← HH.out.2.2]; unfold formedB; rw [H1.out.2]; simp [c8], HH.out.2.1.trans (HZ.out.mono (by simp))⟩
  have c8' : ¬ 50 < (ch.length : Int) := by omega
  go_upto_region 4 with (go_at_call 19; refine (H1.out.1 _).mono ?_; rintro e w2 ⟨rfl, z1⟩; have HZ := Lib.hid z1; have b1 := b0.below z1; have c9 := b1.cell 4; have l9 := b1.lt; clear z1)
  refine forget (fun Y => Below w.heap.size w Y ∧ Bk Y w.heap.size #[.int .i64 se, .int .i64 sh, .int .i64 pl, .string fi, .slice A ch.length cap] 24) ⟨HH.out.2.1.trans (HZ.out.mono (by simp)), b1⟩ ?_
  have H9 := Lib.hid (And.intro HH.out.2.2 (show headB se sh pl fi ch.length = true by rw [H1.out.2]; simp [c8]))
  have HE9 := Lib.hid h9
  clear HH HZ b1 b0 c9 l9 H1 HK hK2 hK3 c1 c1' c2 c2' c3 c3' c4 c4' c5 c5' c6 c6' h9
  rintro Y ⟨hY, b1⟩
  have c9 := b1.cell 4
  have l9 := b1.lt
  have HY := Lib.hid hY
  clear hY
  go_wp2_with fail
  go_loopw [5, 54] (fun _ i wr => ∃ k : Nat, k ≤ ch.length ∧ i = .int .i64 k ∧ (ch.take k).all formX = true ∧ Below w.heap.size w wr) (fun _ i _ => ch.length - (intOf i).toNat)
  case atStart => exact ⟨0, by omega, rfl, rfl, HY.out⟩
  case round =>
    obtain ⟨k, hk, rfl, hall, hlow⟩ := hrel
    generalize wr = wA at *
    have hz := hlow.size
    by_cases hlt : k < ch.length
    · as_aux_lemma =>
      obtain ⟨b, off, tk, AS, ss, cs, rfl, hb, Hk, d0, d1, ht, hs, HE⟩ := pick_tr (HE9.out.keep (hlow.mono hB) (Nat.le_refl _)) hlt
      have hkl : (k : Int) < (ch.length : Int) := by omega
      have bw : b < wA.heap.size := by omega
      have hat := all_takeO formX Hk.out
      rw [hall, Bool.true_and] at hat
      have HA := Lib.hid (And.intro hlow hat)
      clear hlow hat hall
      have hbad : formX (tk, ss) = false → Ending.returned (.bool r) = .returned (.bool false) := fun h => by
        rw [← H9.out.1]
        unfold formedB
        rw [all_badO Hk.out h, Bool.and_false]
      have Hbad := Lib.hid hbad
      clear hbad
      by_cases e18 : ss.length = 18
      case neg =>
        have e18' : ((ss.length : Int) != 18) = true := by simpa using (show ¬ (ss.length : Int) = 18 by omega)
        have Hb := Lib.hid (Hbad.out (by unfold formX; simp [e18]))
        go_wp2_with fail
        go_ret
        exact ⟨by rw [Hb.out]; rfl, HA.out.1.trans (Below.alloc (Below.refl _ _) hz _)⟩
      have e18' : ((ss.length : Int) != 18) = false := by simpa using (show (ss.length : Int) = 18 by omega)
      have He := Lib.hid e18
      clear e18
      have his9 := fun (X : World) => is_any tk X ht
      have bn := Bk.new wA #[.string tk, .slice AS ss.length cs] 27
      have HN := Lib.hid bn
      clear bn
      cases hi : isL tk.data.toList with
      | false =>
        rw [hi] at his9
        have Hb := Lib.hid (And.intro (Hbad.out (by unfold formX; simp [hi])) his9)
        clear his9 hi
        go_wp2_with (go_at_call 19; refine (Hb.out.2 _).mono ?_; rintro e w2 ⟨rfl, z1⟩; have HZ := Lib.hid z1; clear z1)
        go_ret
        exact ⟨by rw [Hb.out.1]; rfl, HA.out.1.trans (Below.trans (Below.alloc (Below.refl _ _) hz _) (HZ.out.mono (by simp; omega)))⟩
      | true =>
        rw [hi] at his9
        have hse := fun (X : World) (hx : Below wA.heap.size wA X) => contains_bad AS ss cs X X.heap.size (HE.out.2.2.keep (hx.mono (by omega)) (by have := hx.size; omega)) (Nat.le_refl _) hs
        cases hn : noneL ss with
        | false =>
          rw [hn] at hse
          have Hb := Lib.hid (And.intro (Hbad.out (by unfold formX; simp [hn])) (And.intro his9 hse))
          clear his9 hi hn hse
          go_wp2_with (first
            | (go_at_call 19; refine (Hb.out.2.1 _).mono ?_; rintro e w2 ⟨rfl, z1⟩; have HZ := Lib.hid z1; have bn2 := HN.out.below z1; have cn := bn2.cell 1; have ln := bn2.lt; clear z1)
            | (go_at_call 34; refine (Hb.out.2.2 _ (Below.trans0 (below_self _ _) HZ.out)).mono ?_; rintro e w3 ⟨rfl, z1⟩; have HZ2 := Lib.hid z1; clear z1))
          go_ret
          exact ⟨by rw [Hb.out.1]; rfl, HA.out.1.trans ((Below.trans0 (Below.trans0 (below_self _ _) HZ.out) HZ2.out).mono hz)⟩
        | true =>
          rw [hn] at hse
          have Hb := Lib.hid (And.intro (show (ch.take (k + 1)).all formX = true by rw [HA.out.2]; unfold formX; simp [hi, hn, He.out]) (And.intro his9 hse))
          clear his9 hi hn hse
          go_wp2_with (first
            | (go_at_call 19; refine (Hb.out.2.1 _).mono ?_; rintro e w2 ⟨rfl, z1⟩; have HZ := Lib.hid z1; have bn2 := HN.out.below z1; have cn := bn2.cell 1; have ln := bn2.lt; clear z1)
            | (go_at_call 34; refine (Hb.out.2.2 _ (Below.trans0 (below_self _ _) HZ.out)).mono ?_; rintro e w3 ⟨rfl, z1⟩; have HZ2 := Lib.hid z1; clear z1))
          go_roundw
          case rel => exact ⟨k + 1, by omega, by go_num, Hb.out.1, HA.out.1.trans ((Below.trans0 (Below.trans0 (below_self _ _) HZ.out) HZ2.out).mono hz)⟩
          case measure => simp [intOf]; omega
    · obtain rfl : k = ch.length := by omega
      rw [List.take_length] at hall
      have H2 := Lib.hid (And.intro (show formedB se sh pl fi ch = true by unfold formedB; rw [H9.out.2, hall]; rfl) hlow)
      clear hall hlow
      go_wp2_with fail
      go_ret
      exact ⟨by rw [← H9.out.1, H2.out.1]; rfl, H2.out.2⟩
end Go.Proofs.YtojkpoikamcgkaaDoor
