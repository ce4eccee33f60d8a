/- Layer 1 (money): Sum. -/
import Derived.Test.YtdacfopdalgkaaaPriceC
import Derived.Test.YtdacfopdalgkaaaMoneyQ
namespace Go.Proofs.Ytdacfopdalgkaaa
open Go.RowKit
set_option linter.unusedVariables false
set_option linter.unusedSimpArgs false

set_option maxHeartbeats 1000000 in
theorem rshare_no (n num den : Int) (w : World) (h : (validB n && ratioB num den) = false) :
    Calls Try.prog 27 #[.int .i64 n, .agg #[.int .i64 num, .int .i64 den]] w fun e w' => e = .returned (.tuple #[.int .i64 0, .int .i64 1]) ∧ Below w.heap.size w w' := by
  obtain ⟨a, ha⟩ : ∃ a, validB n = a := ⟨_, rfl⟩
  obtain ⟨b, hb⟩ : ∃ b, ratioB num den = b := ⟨_, rfl⟩
  rw [ha, hb] at h
  have Ha := Lib.hid ha
  have Hb := Lib.hid hb
  clear ha hb
  cases a
  · go_enter Try.func27, Try.ntmps27
    go_wp2_with fail
    refine (rvalid_is false _ _ Ha).mono ?_
    rintro e w' ⟨rfl, rfl⟩
    go_wp2_with fail
    go_ret2
    exact ⟨rfl, (Below.refl _ _).alloc (by simp) _⟩
  · obtain rfl : b = false := by simpa using h
    go_enter Try.func27, Try.ntmps27
    go_wp2_with fail
    refine (rvalid_is true _ _ Ha).mono ?_
    rintro e w' ⟨rfl, rfl⟩
    go_wp2_with fail
    refine (rratio_is false _ _ _ Hb).mono ?_
    rintro e w1 ⟨rfl, hb⟩
    go_wp2_with fail
    go_ret2
    exact ⟨rfl, ((Below.refl _ w).alloc (Nat.le_refl _) _).trans (hb.mono (by simp))⟩

theorem rshare_any (n num den : Int) (w : World) :
    Calls Try.prog 27 #[.int .i64 n, .agg #[.int .i64 num, .int .i64 den]] w fun e w' => e = .returned (.tuple #[.int .i64 (shareV n num den), .int .i64 (shareE n num den)]) ∧ Below w.heap.size w w' := by
  by_cases h : (validB n && ratioB num den) = true
  · have h' := h
    rw [Bool.and_eq_true] at h'
    exact rshare_ok n num den w (validB_out h'.1) (ratioB_out h'.2)
  · rw [Bool.not_eq_true] at h
    obtain ⟨h1, h2⟩ := share_bad h
    rw [h1, h2]
    exact rshare_no n num den w h
theorem rshare_two (v e' n num den : Int) (w : World) (h1 : Hid (shareV n num den = v)) (h2 : Hid (shareE n num den = e')) :
    Calls Try.prog 27 #[.int .i64 n, .agg #[.int .i64 num, .int .i64 den]] w fun e w' => e = .returned (.tuple #[.int .i64 v, .int .i64 e']) ∧ Below w.heap.size w w' := by
  have := rshare_any n num den w
  rwa [h1.out, h2.out] at this

theorem notvalid_any (n : Int) (w : World) : Calls Try.prog 33 #[.int .i64 n] w fun e w' => e = .returned (.bool (!validB n)) ∧ w = w' := by
  go_enter Try.func33, Try.ntmps33
  go_wp2_with (go_at_call 23; refine (valid_any _ _).mono ?_; rintro e w' ⟨rfl, rfl⟩)
  go_ret
  exact ⟨rfl, rfl⟩

def SomeIdx (r : Bool) (w : World) (e : Ending) (w' : World) : Prop := ∃ k : Int, e = .returned (.int .i64 k) ∧ decide (0 ≤ k) = r ∧ w = w'

set_option maxHeartbeats 1000000 in
theorem indexSum_any (w : World) (B : Nat) (A : Option Addr) (cap : Nat) (zs : List Int) (h : Elems tInt w B A zs) (hm : zs.length ≤ 9223372036854775807) :
    Calls Try.prog 35 #[.slice A zs.length cap, .func (.func 33) #[] #[]] w (SomeIdx (!zs.all validB) w) := by
  go_enter Try.func35, Try.ntmps35
  go_wp2
  go_loop [5, 8] (fun _ i => ∃ k : Nat, k ≤ zs.length ∧ i = .int .i64 k ∧ zs.all validB = (zs.drop k).all validB) (fun _ i => zs.length - (intOf i).toNat)
  case atStart => exact ⟨0, by omega, rfl, by simp⟩
  case round =>
    obtain ⟨k, hk, rfl, hall⟩ := hrel
    have Hall := Lib.hid hall
    clear hall
    by_cases hlt : k < zs.length
    · obtain ⟨b, off, z, rfl, _, Hz, _, hcell, hlo, hhi⟩ := h.pick_int hlt
      obtain ⟨r, hr⟩ : ∃ r, validB z = r := ⟨_, rfl⟩
      have Hr := Lib.hid hr
      go_wp2_with (go_at_call 33; refine (notvalid_any _ _).mono ?_; rintro e w' ⟨rfl, rfl⟩)
      case roundEnd =>
        go_round
        case rel => exact ⟨k + 1, by omega, by go_num, by rw [Hall.out, Hz.out]; simp_all⟩
        case measure => simp [intOf]; omega
      all_goals
        go_ret
        exact ⟨k, rfl, by rw [Hall.out, Hz.out]; simp_all, rfl⟩
    · go_wp2
      go_ret
      exact ⟨-1, rfl, by rw [Hall.out, List.drop_eq_nil_of_le (by omega)]; rfl, rfl⟩

theorem containsSum_any (w : World) (B : Nat) (A : Option Addr) (cap : Nat) (zs : List Int) (h : Elems tInt w B A zs) (hm : zs.length ≤ 9223372036854775807) :
    Calls Try.prog 32 #[.slice A zs.length cap, .func (.func 33) #[] #[]] w fun e w' => e = .returned (.bool (!zs.all validB)) ∧ w = w' := by
  go_enter Try.func32, Try.ntmps32
  go_wp2_with (go_at_call 35; refine (indexSum_any _ B _ _ _ h hm).mono ?_; rintro e w' ⟨k, rfl, hk, rfl⟩)
  go_ret
  exact ⟨rfl, rfl⟩
theorem containsSum_is (r : Bool) (w : World) (B n : Nat) (A : Option Addr) (cap : Nat) (zs : List Int) (h : Elems tInt w B A zs) (hn : zs.length = n) (hm : n ≤ 9223372036854775807) (hr : Hid ((!zs.all validB) = r)) :
    Calls Try.prog 32 #[.slice A n cap, .func (.func 33) #[] #[]] w fun e w' => e = .returned (.bool r) ∧ w = w' := by
  subst hn
  exact (containsSum_any w B A cap zs h hm).mono fun e w' ⟨he, hw⟩ => ⟨by rw [he, hr.out], hw⟩

set_option maxHeartbeats 1000000 in
theorem sum_any (w : World) (B : Nat) (A : Option Addr) (cap : Nat) (zs : List Int) (h : Elems tInt w B A zs) (hm : zs.length ≤ 1000000) (hv : zs.all validB = true) :
    Calls Try.prog 34 #[.slice A zs.length cap] w fun e w' => e = .returned (.int .i64 (sumI zs)) ∧ w = w' := by
  have Hv := Lib.hid hv
  clear hv
  go_enter Try.func34, Try.ntmps34
  go_wp2
  go_loop [3, 5, 8] (fun n _ i => ∃ k : Nat, k ≤ zs.length ∧ i = .int .i64 k ∧ n = .int .i64 (sumI (zs.take k))) (fun _ _ i => zs.length - (intOf i).toNat)
  case atStart => exact ⟨0, by omega, rfl, rfl⟩
  case round =>
    obtain ⟨k, hk, rfl, rfl⟩ := hrel
    obtain ⟨s1, s2⟩ := sumI_bd k zs Hv.out hk
    by_cases hlt : k < zs.length
    · obtain ⟨b, off, z, rfl, _, Hz, Hk, hcell, hlo, hhi⟩ := h.pick_int hlt
      obtain ⟨s3, s4⟩ := sumI_bd (k + 1) zs Hv.out (by omega)
      have Ht := Lib.hid (sumI_take Hk.out)
      have Ht' := Ht.out
      rw [Ht'] at s3 s4
      clear Ht'
      generalize hS : sumI (zs.take k) = S at *
      have HS := Lib.hid hS
      clear hS
      go_wp2
      go_round
      case rel => exact ⟨k + 1, by omega, by go_num, by rw [Ht.out]⟩
      case measure => simp [intOf]; omega
    · go_wp2
      go_ret
      exact ⟨ret_int (by rw [List.take_of_length_le (by omega)]), rfl⟩
theorem sum_is (s : Int) (w : World) (B n : Nat) (A : Option Addr) (cap : Nat) (zs : List Int) (h : Elems tInt w B A zs) (hn : zs.length = n) (hm : n ≤ 1000000) (hv : Hid (zs.all validB = true)) (hs : Hid (sumI zs = s)) :
    Calls Try.prog 34 #[.slice A n cap] w fun e w' => e = .returned (.int .i64 s) ∧ w = w' := by
  subst hn
  exact (sum_any w B A cap zs h hm hv.out).mono fun e w' ⟨he, hw⟩ => ⟨by rw [he, hs.out], hw⟩

set_option maxHeartbeats 1000000 in
theorem Sum_any (w : World) (B : Nat) (A : Option Addr) (cap : Nat) (zs : List Int) (h : Elems tInt w B A zs) (hm : zs.length ≤ 1000000) :
    Calls Try.prog 31 #[.slice A zs.length cap] w fun e w' => e = .returned (.tuple #[.int .i64 (sumV zs), .int .i64 (sumE zs)]) ∧ w = w' := by
  obtain ⟨a, ha⟩ : ∃ a, (!zs.all validB) = a := ⟨_, rfl⟩
  obtain ⟨s, hs⟩ : ∃ s, sumI zs = s := ⟨_, rfl⟩
  obtain ⟨c, hc⟩ : ∃ c, validB s = c := ⟨_, rfl⟩
  have Ha := Lib.hid ha
  have Hs := Lib.hid hs
  have Hc := Lib.hid hc
  cases a
  · have ha' : zs.all validB = true := by simpa using ha
    have Ha' := Lib.hid ha'
    have e1 : sumV zs = (if c then s else 0) := by unfold sumV; rw [ha', hs, hc]; simp
    have e2 : sumE zs = (if c then 0 else 2) := by unfold sumE; rw [ha', hs, hc]; simp
    rw [e1, e2]
    clear ha ha' hs hc e1 e2
    go_enter Try.func31, Try.ntmps31
    go_wp2_with (first
      | (go_at_call 32; refine (containsSum_is _ _ B _ _ _ _ h rfl (by omega) Ha).mono ?_; rintro e w' ⟨rfl, rfl⟩)
      | (go_at_call 34; refine (sum_is _ _ B _ _ _ _ h rfl hm Ha' Hs).mono ?_; rintro e w' ⟨rfl, rfl⟩)
      | (go_at_call 23; refine (valid_is _ _ _ Hc).mono ?_; rintro e w' ⟨rfl, rfl⟩))
    all_goals go_ret2
    all_goals simp_all
  · have ha' : zs.all validB = false := by simpa using ha
    have e1 : sumV zs = 0 := by unfold sumV; rw [ha']; simp
    have e2 : sumE zs = 1 := by unfold sumE; rw [ha']; simp
    rw [e1, e2]
    clear ha ha' hs hc e1 e2
    go_enter Try.func31, Try.ntmps31
    go_wp2_with (go_at_call 32; refine (containsSum_is _ _ B _ _ _ _ h rfl (by omega) Ha).mono ?_; rintro e w' ⟨rfl, rfl⟩)
    go_ret2
    exact ⟨rfl, rfl⟩
theorem Sum_two (v e' : Int) (w : World) (B n : Nat) (A : Option Addr) (cap : Nat) (zs : List Int) (h : Elems tInt w B A zs) (hn : zs.length = n) (hm : n ≤ 1000000) (h1 : Hid (sumV zs = v)) (h2 : Hid (sumE zs = e')) :
    Calls Try.prog 31 #[.slice A n cap] w fun e w' => e = .returned (.tuple #[.int .i64 v, .int .i64 e']) ∧ w = w' := by
  subst hn
  have := Sum_any w B A cap zs h hm
  rwa [h1.out, h2.out] at this
end Go.Proofs.Ytdacfopdalgkaaa
