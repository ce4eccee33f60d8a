/- Layer 28 (pay): the walk of Answer, and of a step. -/
import Derived.Test.YthgiopgapkjleaaPayB
namespace Go.Proofs.Ythgiopgapkjleaa
open Go.RowKit
set_option linter.unusedVariables false
set_option linter.unusedSimpArgs false
attribute [local go_sem] ext_cell ext_frozen lt_ext ext_drew

def Answered (w : World) (pb mb m K : Nat) (r : PayS × Int × Int) (e : Ending) (w' : World) : Prop :=
  e = .returned (.tuple #[.int .i64 r.2.1, .int .i64 r.2.2]) ∧ ∃ m', PayIs w' pb mb m' (K + 1) r.1 ∧ Only (fun g => g = pb ∨ g = mb) w w'

theorem only_or {pb mb : Nat} {w w' : World} (h : Only (fun g => g = pb) w w') : Only (fun g => g = pb ∨ g = mb) w w' := h.mono fun g hg => .inl hg
theorem only_or' {pb mb : Nat} {w w' : World} (h : Only (fun g => g = mb) w w') : Only (fun g => g = pb ∨ g = mb) w w' := h.mono fun g hg => .inr hg

set_option maxHeartbeats 1000000 in
theorem answer_any (w : World) (pb mb m K : Nat) (s : PayS) (a : Int) (y : Bool) (now : Int) (h : PayIs w pb mb m K s) (hK : K ≤ 1000) (fa : fits a) :
    Calls Try.prog 22 #[.pointer (some ⟨pb, 0, none⟩), .int .i64 a, .bool y, .int .i64 now] w (Answered w pb mb m K (ansS s a y now)) := by
  have hok := h.ok.answer a y now
  have H := Lib.hid h
  rcases ans_cases s a y now with ⟨ht, e⟩ | ⟨ht, hr, e⟩ | ⟨ht, h1, h2, hs, e⟩ | ⟨ht, h1, h2, hs, e⟩
  · rw [e]
    have Ht := Lib.hid ht
    clear ht e hok h
    go_enter Try.func22, Try.ntmps22
    go_wp2_with (go_at_call 31; refine (pass_no _ _ _ Ht.out).mono ?_; rintro e w' ⟨rfl, rfl⟩)
    go_ret2
    exact ⟨rfl, m, H.out.more, Only.refl _ _⟩
  all_goals
    rw [e] at hok ⊢
    have Ht := Lib.hid ht
    have Hok := Lib.hid hok
    have hkeep : Hid (∀ w', Bk w' pb (pcs mb (passS s now)) 60 → Only (fun g => g = pb) w w' → PayIs w' pb mb m K (passS s now)) := fun w' hb ho => ⟨hb, h.map.only ho (fun e => h.ne e.symm), h.few, h.ok.pass ht, h.total, h.owed⟩
    have ha0 := h.ok.asked0
    have ha1 := h.ok.asked1
    have hne := h.ne
    clear ht e hok h
    go_enter Try.func22, Try.ntmps22
    go_wp2_with fail
    refine (pass_yes _ pb mb s _ H.out.bk Ht.out).mono ?_
    rintro e w1 ⟨rfl, hb, ho⟩
    have c5 : w1.cell? ⟨pb, 5, none⟩ = some (.int .i64 (passS s now).state) := hb.cell 5
    have c4 : w1.cell? ⟨pb, 4, none⟩ = some (.map (some mb)) := hb.cell 4
    have c3 : w1.cell? ⟨pb, 3, none⟩ = some (.int .i64 s.asked) := hb.cell 3
    have lb := hb.lt
    have HP := Lib.hid (hkeep.out _ hb ho)
    have HO := Lib.hid ho
    have hmap : MapB litI Try.prog 3 4 w1 mb m s.ans := HP.out.map
    have HM := Lib.hid hmap
    clear hb ho hkeep hmap
  · rcases hr with hr | hr
    · go_wp2_with fail
      go_ret2
      exact ⟨rfl, m, HP.out.more, only_or HO.out⟩
    · have h1 : 1 ≤ a := by omega
      go_wp2_with fail
      go_ret2
      exact ⟨rfl, m, HP.out.more, only_or HO.out⟩
  · cases y
    all_goals
      go_wp2_with (at_lookup; go_loud (refine list_look_ok rfl _ _ _ rfl 3 4 keyedI Try.underlying48 Try.underlying4 (zeroB _) rfl HM.out _ a rfl (keyI fa) ?_))
      go_ret2
      exact ⟨rfl, m, HP.out.more, only_or HO.out⟩
  · have hm : m < maxLen := by have := HP.out.few; unfold maxLen; omega
    cases hv : s.ans a with
    | some v =>
      have hvy : v = y := by rw [hv] at hs; cases v <;> cases y <;> simp at hs <;> rfl
      subst hvy
      clear hs
      have e1 : tookS (passS s now) a v = { passS s now with ans := setA s.ans a v } := by
        rw [tookS, if_neg (fun h' => by have h3 : s.ans a = none := h'.2; rw [hv] at h3; cases h3)]
        rfl
      have HE := Lib.hid e1
      clear e1
      cases v
      all_goals
        go_wp2_with (first
          | (at_lookup; refine list_look_ok rfl _ _ _ rfl 3 4 keyedI Try.underlying48 Try.underlying4 (zeroB _) rfl HM.out _ a rfl (keyI fa) ?_)
          | (at_mapUpdate; refine list_store rfl _ _ _ _ rfl 3 4 keyedI Try.underlying48 Try.underlying4 litI_inj hm rfl HM.out _ a rfl (keyI fa) _ rfl ?_; intro w2 hm2 ho2; have bk2 := HP.out.bk.only ho2 hne; have c52 : w2.cell? ⟨pb, 5, none⟩ = some (.int .i64 (passS s now).state) := bk2.cell 5; have HQ := Lib.hid (And.intro bk2 (And.intro hm2 ho2)); clear bk2 hm2 ho2))
        go_ret2
        have hh := HQ.out.2.1
        simp only [hv, Option.isSome_some, if_true] at hh
        have hok2 := Hok.out
        refine ⟨by rw [HE.out]; try rfl, m, ?_, (only_or HO.out).trans (only_or' HQ.out.2.2)⟩
        simp only at hok2 ⊢
        rw [HE.out] at hok2 ⊢
        exact ⟨HQ.out.1, hh, by have := HP.out.few; omega, hok2, HP.out.total, HP.out.more.owed⟩
    | none =>
      clear hs
      cases y
      · have e1 : tookS (passS s now) a false = { passS s now with ans := setA s.ans a false } := by
          rw [tookS, if_neg (by simp)]
          rfl
        have HE := Lib.hid e1
        clear e1
        go_wp2_with (first
          | (at_lookup; refine list_look_ok rfl _ _ _ rfl 3 4 keyedI Try.underlying48 Try.underlying4 (zeroB _) rfl HM.out _ a rfl (keyI fa) ?_)
          | (at_mapUpdate; refine list_store rfl _ _ _ _ rfl 3 4 keyedI Try.underlying48 Try.underlying4 litI_inj hm rfl HM.out _ a rfl (keyI fa) _ rfl ?_; intro w2 hm2 ho2; have bk2 := HP.out.bk.only ho2 hne; have c52 : w2.cell? ⟨pb, 5, none⟩ = some (.int .i64 (passS s now).state) := bk2.cell 5; have HQ := Lib.hid (And.intro bk2 (And.intro hm2 ho2)); clear bk2 hm2 ho2))
        go_ret2
        have hh := HQ.out.2.1
        simp only [hv, Option.isSome_none, Bool.false_eq_true, if_false] at hh
        have hok2 := Hok.out
        refine ⟨by rw [HE.out]; try rfl, m + 1, ?_, (only_or HO.out).trans (only_or' HQ.out.2.2)⟩
        simp only at hok2 ⊢
        rw [HE.out] at hok2 ⊢
        exact ⟨HQ.out.1, hh, by have := HP.out.few; omega, hok2, HP.out.total, HP.out.more.owed⟩
      · have e1 : tookS (passS s now) a true = payS { passS s now with ans := setA s.ans a true } := by
          rw [tookS, if_pos ⟨rfl, hv⟩]
          rfl
        have HE := Lib.hid e1
        clear e1
        have ow := HP.out.owed
        have tt := HP.out.total
        go_wp2_with (first
          | (at_lookup; refine list_look_ok rfl _ _ _ rfl 3 4 keyedI Try.underlying48 Try.underlying4 (zeroB _) rfl HM.out _ a rfl (keyI fa) ?_)
          | (at_mapUpdate; refine list_store rfl _ _ _ _ rfl 3 4 keyedI Try.underlying48 Try.underlying4 litI_inj hm rfl HM.out _ a rfl (keyI fa) _ rfl ?_; intro w2 hm2 ho2; have bk2 := HP.out.bk.only ho2 hne; have HQ := Lib.hid (And.intro bk2 (And.intro hm2 ho2)); clear bk2 hm2 ho2))
        refine (pay_any _ pb mb { passS s now with ans := setA s.ans a true } HQ.out.1 ⟨ow.1, by show s.owed ≤ _; have := ow.2; have : (passS s now).owed = s.owed := rfl; omega⟩ tt).mono ?_
        rintro e w3 ⟨rfl, hb3, ho3⟩
        rw [← HE.out] at hb3
        have c53 : w3.cell? ⟨pb, 5, none⟩ = some (.int .i64 (tookS (passS s now) a true).state) := hb3.cell 5
        have l3 := hb3.lt
        have HR := Lib.hid (And.intro hb3 ho3)
        clear hb3 ho3
        go_wp2_with fail
        go_ret2
        have hh := HQ.out.2.1.only HR.out.2 (fun e => hne e.symm)
        simp only [hv, Option.isSome_none, Bool.false_eq_true, if_false] at hh
        have es := tookS_same (passS s now) a true
        have eo := tookS_owed (passS s now) a true
        refine ⟨rfl, m + 1, ⟨HR.out.1, by show MapB _ _ _ _ _ _ _ (tookS (passS s now) a true).ans; rw [es.2.2.2.2]; exact hh, by have := HP.out.few; omega, Hok.out, by show 0 ≤ (tookS (passS s now) a true).total ∧ _; rw [es.2.2.2.1]; exact tt, ?_⟩, ((only_or HO.out).trans (only_or' HQ.out.2.2)).trans (only_or HR.out.2)⟩
        show 0 ≤ (tookS (passS s now) a true).owed ∧ (tookS (passS s now) a true).owed ≤ _
        rw [eo]
        split <;> omega

def Stepped := Answered
set_option maxHeartbeats 1000000 in
theorem step_any (w : World) (pb mb m K : Nat) (s : PayS) (a : Int) (y : Bool) (now : Int) (h : PayIs w pb mb m K s) (hK : K ≤ 1000) (fa : fits a) :
    Calls Try.prog 13 #[.pointer (some ⟨pb, 0, none⟩), .agg #[.int .i64 a, .bool y, .int .i64 now]] w (Answered w pb mb m K (stepS s (a, y, now))) := by
  have H := Lib.hid (h.below (below_self w (.cells #[.int .i64 a, .bool y, .int .i64 now] 39)))
  have hlt := h.bk.lt
  have hlm := h.map.lt
  have hon : Hid (∀ w', Only (fun g => g = pb ∨ g = mb) (w.alloc (.cells #[.int .i64 a, .bool y, .int .i64 now] 39)) w' → Only (fun g => g = pb ∨ g = mb) w w') := fun w' ho => ((Only.refl _ w).alloc _).trans ho
  clear h
  by_cases h0 : a = 0
  · subst h0
    unfold stepS
    rw [if_pos rfl]
    go_enter Try.func13, Try.ntmps13
    go_wp2_with fail
    refine (ask_any _ pb mb m K s now H.out).mono ?_
    rintro e w' ⟨rfl, hp, ho⟩
    go_wp2_with fail
    go_ret2
    exact ⟨rfl, m, hp.more, hon.out _ (only_or ho)⟩
  · unfold stepS
    rw [if_neg h0]
    go_enter Try.func13, Try.ntmps13
    go_wp2_with fail
    refine (answer_any _ pb mb m K s a y now H.out hK fa).mono ?_
    rintro e w' ⟨rfl, m', hp, ho⟩
    go_wp2_with fail
    go_ret2
    exact ⟨rfl, m', hp, hon.out _ ho⟩
end Go.Proofs.Ythgiopgapkjleaa
