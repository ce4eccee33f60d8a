/- PayAgain: if each answer is given twice, all results, states and debts are the same, also of the second ones; for every time and operations; no condition. -/
import Derived.Test.YthgiopgapkjleaaPayI
namespace Go.Proofs.Ythgiopgapkjleaa
open Go.RowKit Go.ChangeAt
set_option linter.unusedVariables false
set_option linter.unusedSimpArgs false
attribute [local go_sem] ext_cell ext_frozen lt_ext ext_drew

/-- Two payments in one state. -/
structure Twins (w wr : World) (pb mb m K qb nb m2 K2 : Nat) (s : PayS) : Prop where
  one : PayIs wr pb mb m K s
  two : PayIs wr qb nb m2 K2 s
  low : Below w.heap.size w wr
theorem Twins.left {w wr w' : World} {pb mb m K qb nb m2 K2 m' K' : Nat} {s s' : PayS} (h : Twins w wr pb mb m K qb nb m2 K2 s) (hp : PayIs w' pb mb m' K' s') (ho : Only (fun g => g = pb ∨ g = mb) wr w') (h1 : w.heap.size ≤ pb) (h2 : w.heap.size ≤ mb)
    (d : qb ≠ pb ∧ qb ≠ mb ∧ nb ≠ pb ∧ nb ≠ mb) : PayIs w' qb nb m2 K2 s ∧ Below w.heap.size w w' :=
  ⟨h.two.only ho (by omega) (by omega), h.low.trans (ho.to_below (fun g hg => by omega) h.low.size)⟩

theorem step_twice (s : PayS) (o : OpS) (h0 : o.1 ≠ 0) {s' : PayS} {v er : Int} (h : stepS s o = (s', v, er)) : stepS s' o = (s', v, er) := by
  obtain ⟨a, y, now⟩ := o
  unfold stepS at *
  rw [if_neg h0] at *
  have := ans_twice s a y now
  rw [h] at this
  exact this

set_option maxRecDepth 100000 in
set_option maxHeartbeats 4000000 in
theorem again_walk (till : Int) (A : Option Addr) (ls : List OpS) (cap : Nat) (w : World) (h : Elems tOp w w.heap.size A ls) (hm : ls.length ≤ 9223372036854775807) :
    Calls Try.prog 6 #[.int .i64 till, .slice A ls.length cap] w fun e w' => e = .returned (.bool true) ∧ Below w.heap.size w w' := by
  have HH := Lib.hid h
  clear h
  go_enter Try.func6, Try.ntmps6
  go_wp2_with fail
  refine (head_any _).mono ?_
  rintro e w1 ⟨rfl, hb⟩
  have HB1 := Lib.hid hb
  clear hb
  go_upto_region 3 with (fail)
  refine forget (fun W => Below w.heap.size w W ∧ Elems tMean W (w1.heap.size + 1) (some ⟨w1.heap.size, 0, none⟩) [(cardN, 5)] ∧ w1.heap.size + 1 ≤ W.heap.size) ⟨Below.alloc0 HB1.out _, elems_mean w1 w1.heap.size 47 cardN 5 rfl (by decide +kernel) (by unfold fits; omega), by simp⟩ ?_
  rintro x1 ⟨hb, hE, hz⟩
  have hg : w.heap.size ≤ w1.heap.size + 1 := by have := HB1.out.size; omega
  have HX1 := Lib.hid (And.intro hb (And.intro hE hz))
  generalize w1.heap.size + 1 = n0 at *
  generalize (some ⟨w1.heap.size, 0, none⟩ : Option Addr) = A0 at *
  clear hb hE hz HB1
  go_wp2_with fail
  refine (bill_any 5 _ (by unfold fits; omega)).mono ?_
  rintro e x2 ⟨A2, c2, rfl, hE, hb⟩
  have HE := Lib.hid hE
  have HX2 := Lib.hid (And.intro (Below.trans0 HX1.out.1 hb) (And.intro (HX1.out.2.1.keep (hb.mono HX1.out.2.2) (Nat.le_refl _)) (Nat.le_trans HX1.out.2.2 hb.size)))
  clear hE hb HX1
  by_cases ht : 0 ≤ till ∧ till ≤ 1000000000
  · have hE0 : newE [(1, 5)] 5 [(cardN, 5)] till = 0 := by rw [newE_one 5 till (by omega) (by omega), if_pos ht]
    have HE0 := Lib.hid hE0
    clear hE0
    go_wp2_with fail
    refine (new_yes A2 [(1, 5)] c2 1 5 A0 [(cardN, 5)] _ 1 till x2 x2.heap.size HE.out (HX2.out.2.1.keep (Below.refl _ _) HX2.out.2.2) (Nat.le_refl _) rfl (by omega) rfl (by omega) HE0).mono ?_
    rintro e x3 ⟨pb, mb, rfl, hp, h1, h2, hb⟩
    have n1 : w.heap.size ≤ pb := Nat.le_trans HX2.out.1.size h1
    have n2 : w.heap.size ≤ mb := Nat.le_trans HX2.out.1.size h2
    have HP3 := Lib.hid hp
    have HX3 := Lib.hid (And.intro (Below.trans0 HX2.out.1 hb) (And.intro (HX2.out.2.1.keep (hb.mono HX2.out.2.2) (Nat.le_refl _)) (Nat.le_trans HX2.out.2.2 hb.size)))
    clear hp h1 h2 hb HX2 HE
    go_wp2_with fail
    refine (bill_any 5 _ (by unfold fits; omega)).mono ?_
    rintro e x4 ⟨A3, c3, rfl, hE, hb⟩
    have HE := Lib.hid hE
    have HP4 := Lib.hid (HP3.out.below hb)
    have HX4 := Lib.hid (And.intro (Below.trans0 HX3.out.1 hb) (And.intro (HX3.out.2.1.keep (hb.mono HX3.out.2.2) (Nat.le_refl _)) (Nat.le_trans HX3.out.2.2 hb.size)))
    clear hE hb HX3 HP3
    go_wp2_with fail
    refine (new_yes A3 [(1, 5)] c3 1 5 A0 [(cardN, 5)] _ 1 till x4 x4.heap.size HE.out (HX4.out.2.1.keep (Below.refl _ _) HX4.out.2.2) (Nat.le_refl _) rfl (by omega) rfl (by omega) HE0).mono ?_
    rintro e x5 ⟨qb, nb, rfl, hp, h1, h2, hb⟩
    have n3 : w.heap.size ≤ qb := Nat.le_trans HX4.out.1.size h1
    have n4 : w.heap.size ≤ nb := Nat.le_trans HX4.out.1.size h2
    have d1 : pb < x4.heap.size := HP4.out.bk.lt
    have d2 : mb < x4.heap.size := HP4.out.map.lt
    have d3 : pb < qb ∧ pb < nb ∧ mb < qb ∧ mb < nb := by omega
    obtain ⟨e1, e2, e3, e4⟩ := d3
    have HT := Lib.hid (Twins.mk (HP4.out.below hb) hp (Below.trans0 HX4.out.1 hb))
    clear hp h1 h2 hb HX4 HE HP4 d1 d2 HE0
    by_cases hlen : ls.length ≤ 80
    · have hlen' : (ls.length : Int) ≤ 80 := by omega
      go_wp2_with fail
      go_loopw [11] (fun i wr => ∃ (k m m2 K2 : Nat) (s : PayS), k ≤ ls.length ∧ i = .int .i64 k ∧ K2 ≤ 2 * k ∧ Twins w wr pb mb m k qb nb m2 K2 s) (fun i _ => ls.length - (intOf i).toNat)
      case atStart => exact ⟨0, 0, 0, 0, _, by omega, rfl, by omega, HT.out⟩
      case round =>
        obtain ⟨k, m, m2, K2, s, hk, rfl, hK2, hr⟩ := hrel
        have hE := HH.out.keep hr.low (Nat.le_refl _)
        have hbr : w.heap.size ≤ wr.heap.size := hr.low.size
        have HX := Lib.hid hr
        clear hr HT
        by_cases hlt : k < ls.length
        · obtain ⟨b, off, a, y, n, rfl, hb, Hk, c0, c1, cn, f0, f1⟩ := pick_op hE hlt
          have bw : b < wr.heap.size := by omega
          clear hE
          obtain ⟨s', v, er, hs'⟩ : ∃ s' v er, stepS s (a, y, n) = (s', v, er) := ⟨_, _, _, rfl⟩
          have Hs' := Lib.hid hs'
          obtain ⟨st', hst'⟩ : ∃ v, s'.state = v := ⟨_, rfl⟩
          obtain ⟨ow', how'⟩ : ∃ v, s'.owed = v := ⟨_, rfl⟩
          have Hst' := Lib.hid hst'
          have How' := Lib.hid how'
          clear hs' hst' how'
          go_wp2_with fail
          refine (step_is wr pb mb m k s a y n s' v er HX.out.one (by omega) f0 Hs').mono ?_
          rintro e w4 ⟨rfl, m', hp, ho⟩
          obtain ⟨hq, hl⟩ := HX.out.left hp ho n1 n2 (by omega)
          have HP := Lib.hid hp
          have HQ := Lib.hid hq
          have HL := Lib.hid hl
          have hbr4 : w.heap.size ≤ w4.heap.size := hl.size
          have hEl := HH.out.keep hl (Nat.le_refl _)
          obtain ⟨b', off', a', y', n', hA, _, Hk', d0, d1, d2, _⟩ := pick_op hEl hlt
          have hsame := Hk.out.symm.trans Hk'.out
          simp only [Option.some.injEq, Prod.mk.injEq, Addr.mk.injEq, and_true] at hsame hA
          obtain ⟨rfl, rfl⟩ := hA
          obtain ⟨rfl, rfl, rfl⟩ := hsame
          have bw4 : b < w4.heap.size := by omega
          clear hp ho hq hl hEl Hk' c0 c1 cn HX
          go_wp2_with fail
          refine (step_is w4 qb nb m2 K2 s a y n s' v er HQ.out (by omega) f0 Hs').mono ?_
          rintro e w5 ⟨rfl, m3, hp, ho⟩
          have HQ5 := Lib.hid hp
          have HP5 := Lib.hid (HP.out.only ho (by omega) (by omega))
          have hl := HL.out.trans (ho.to_below (B := w.heap.size) (fun g hg => by omega) HL.out.size)
          have HL5 := Lib.hid hl
          have hbr5 : w.heap.size ≤ w5.heap.size := hl.size
          have hEl := HH.out.keep hl (Nat.le_refl _)
          obtain ⟨b', off', a', y', n', hA, _, Hk', c0, c1, c2, _⟩ := pick_op hEl hlt
          have hsame := Hk.out.symm.trans Hk'.out
          simp only [Option.some.injEq, Prod.mk.injEq, Addr.mk.injEq, and_true] at hsame hA
          obtain ⟨rfl, rfl⟩ := hA
          obtain ⟨rfl, rfl, rfl⟩ := hsame
          have bw5 : b < w5.heap.size := by omega
          clear hp ho hl hEl Hk' d0 d1 d2 HP HQ HL
          by_cases h0 : a = 0
          · subst h0
            go_wp2_with (first
              | (go_at_call 16; first | ((with_reducible refine (state_is w5 pb mb _ _ s' _ HP5.out Hst'.out).mono ?_); rintro e w' ⟨rfl, rfl⟩) | ((with_reducible refine (state_is w5 qb nb _ _ s' _ HQ5.out Hst'.out).mono ?_); rintro e w' ⟨rfl, rfl⟩))
              | (go_at_call 18; first | ((with_reducible refine (owed_is w5 pb mb _ _ s' _ HP5.out How'.out).mono ?_); rintro e w' ⟨rfl, rfl⟩) | ((with_reducible refine (owed_is w5 qb nb _ _ s' _ HQ5.out How'.out).mono ?_); rintro e w' ⟨rfl, rfl⟩)))
            go_roundw
            case rel => exact ⟨k + 1, m', m3, K2 + 1, s', by omega, by go_num, by omega, HP5.out, HQ5.out, HL5.out⟩
            case measure => simp [intOf]; omega
          · have Htw := Lib.hid (step_twice s (a, y, n) h0 Hs'.out)
            go_wp2_with fail
            refine (step_is w5 qb nb m3 (K2 + 1) s' a y n s' v er HQ5.out (by omega) f0 Htw).mono ?_
            rintro e w6 ⟨rfl, m4, hp, ho⟩
            have HQ6 := Lib.hid hp
            have HP6 := Lib.hid (HP5.out.only ho (by omega) (by omega))
            have HL6 := Lib.hid (HL5.out.trans (ho.to_below (B := w.heap.size) (fun g hg => by omega) HL5.out.size))
            clear hp ho HQ5 HP5 HL5 Htw c0 c1 c2
            go_wp2_with (first
              | (go_at_call 16; first | ((with_reducible refine (state_is w6 pb mb _ _ s' _ HP6.out Hst'.out).mono ?_); rintro e w' ⟨rfl, rfl⟩) | ((with_reducible refine (state_is w6 qb nb _ _ s' _ HQ6.out Hst'.out).mono ?_); rintro e w' ⟨rfl, rfl⟩))
              | (go_at_call 18; first | ((with_reducible refine (owed_is w6 pb mb _ _ s' _ HP6.out How'.out).mono ?_); rintro e w' ⟨rfl, rfl⟩) | ((with_reducible refine (owed_is w6 qb nb _ _ s' _ HQ6.out How'.out).mono ?_); rintro e w' ⟨rfl, rfl⟩)))
            go_roundw
            case rel => exact ⟨k + 1, m', m4, K2 + 1 + 1, s', by omega, by go_num, by omega, HP6.out, HQ6.out, HL6.out⟩
            case measure => simp [intOf]; omega
        · go_wp2_with fail
          go_ret
          exact ⟨rfl, HX.out.low⟩
    · have hlen' : 80 < (ls.length : Int) := by omega
      go_wp2_with fail
      go_ret
      exact ⟨rfl, HT.out.low⟩
  · have hE0 : newE [(1, 5)] 5 [(cardN, 5)] till = 1 := by rw [newE_one 5 till (by omega) (by omega), if_neg ht]
    have HE0 := Lib.hid hE0
    clear hE0
    go_wp2_with fail
    refine (new_no A2 [(1, 5)] c2 1 5 A0 [(cardN, 5)] _ 1 till x2 x2.heap.size 1 HE.out (HX2.out.2.1.keep (Below.refl _ _) HX2.out.2.2) (Nat.le_refl _) rfl (by omega) rfl (by omega) HE0 (by omega)).mono ?_
    rintro e x3 ⟨rfl, hb⟩
    have HX3 := Lib.hid (And.intro (Below.trans0 HX2.out.1 hb) (And.intro (HX2.out.2.1.keep (hb.mono HX2.out.2.2) (Nat.le_refl _)) (Nat.le_trans HX2.out.2.2 hb.size)))
    clear hb HX2 HE
    go_wp2_with fail
    refine (bill_any 5 _ (by unfold fits; omega)).mono ?_
    rintro e x4 ⟨A3, c3, rfl, hE, hb⟩
    have HE := Lib.hid hE
    have HX4 := Lib.hid (And.intro (Below.trans0 HX3.out.1 hb) (And.intro (HX3.out.2.1.keep (hb.mono HX3.out.2.2) (Nat.le_refl _)) (Nat.le_trans HX3.out.2.2 hb.size)))
    clear hE hb HX3
    go_wp2_with fail
    refine (new_no A3 [(1, 5)] c3 1 5 A0 [(cardN, 5)] _ 1 till x4 x4.heap.size 1 HE.out (HX4.out.2.1.keep (Below.refl _ _) HX4.out.2.2) (Nat.le_refl _) rfl (by omega) rfl (by omega) HE0 (by omega)).mono ?_
    rintro e x5 ⟨rfl, hb⟩
    have HX5 := Lib.hid (Below.trans0 HX4.out.1 hb)
    clear hb HX4 HE HE0
    go_wp2_with fail
    go_ret
    exact ⟨rfl, HX5.out⟩

set_option maxRecDepth 100000 in
theorem payAgain_lifted (os : Os) (started : os.Started) (H : Type) (enc : TypeId × Value → H) :
    ReturnsInHanded {} Try.checked os 6 .any (Rows.payAgainSpec.pre6 enc Try.prog Try.f6 [] false) (Rows.payAgainSpec.post enc Try.prog Try.f6 false true false false) := by
  refine law_lifted (C := Try.checked) own started (by kernel_rfl) Try.func6 rfl (fun ds hds => ?_) (tb := 4) (by kernel_rfl) Try.underlying4 laidOut (fun t ht => ?_)
    (ChangeSpec.witness6 (enc := enc) (C := Try.checked) false ⟨#[], #[.int .i64 0, .slice none 0 0], []⟩ 8 (by kernel_rfl) (by kernel_rfl) (by kernel_rfl) (by kernel_rfl)) ?_
  · rw [Try.params6] at hds
    match ds, hds with
    | [_, _], _ => rfl
  · have := List.all_eq_true.1 (show (Try.f6.params.toList.all fun t => Try.prog.readableRec t && decide (t < Try.prog.types.size)) = true by kernel_rfl) t ht
    simp only [Bool.and_eq_true, decide_eq_true_eq] at this
    exact this
  · intro W args g
    rw [Try.params6] at g
    obtain ⟨v0, q0, e0, g0, h0⟩ := g.cons_inv
    obtain ⟨v1, q1, rfl, g1, h1⟩ := h0.cons_inv
    obtain rfl := h1.nil_inv
    obtain rfl : args = #[v0, v1] := by cases args; simp_all
    obtain ⟨till, rfl, x0⟩ := g0.int Try.underlying3 (by kernel_rfl)
    obtain ⟨A, cap, ls, rfl, b1, b2, b3⟩ := g1.slice Try.underlying26 opensOps
    exact again_walk till A ls cap W b3 (by unfold maxLen at b2; omega)

theorem payAgain_holds : Rows.PayAgainSaid :=
  OpenClaim.holds_of_wide 6 Try.f6 rfl rfl rfl rfl rfl rfl rfl ⟨rfl, rfl, rfl, rfl, rfl⟩ rfl rfl rfl rfl rfl (by kernel_rfl) Try.func6 (by kernel_rfl)
    (of_decide_eq_true (by kernel_rfl)) (by unfold Func.isWrapper; first | (rw [if_pos (by decide +kernel)]; kernel_rfl) | (rw [if_neg (by decide +kernel)]; exact ⟨rfl, rfl⟩))
    (fun os started H enc _ => payAgain_lifted os started H enc)
#print axioms payAgain_holds
end Go.Proofs.Ythgiopgapkjleaa
