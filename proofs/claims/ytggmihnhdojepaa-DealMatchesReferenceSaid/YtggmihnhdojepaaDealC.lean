/- Layer 34 (deal), names: what the functions that judge them answer. -/
import Derived.Test.YtggmihnhdojepaaDealB
namespace Go.Proofs.Ytggmihnhdojepaa
open Go.RowKit
set_option linter.unusedVariables false
set_option linter.unusedSimpArgs false

def okC (first : Bool) (c : Int) : Bool := decide (97 ≤ c ∧ c ≤ 122 ∨ 65 ≤ c ∧ c ≤ 90 ∨ first = false ∧ (c = 95 ∨ 48 ≤ c ∧ c ≤ 57))
def okAt (s : ByteArray) (i : Nat) : Bool := okC (decide (i = 0)) ((s.data.toList.getD i 0).toNat : Int)
def nameB (s : ByteArray) : Bool := decide (0 < s.size) && decide (s.size ≤ 24) && (List.range s.size).all (okAt s)

theorem okAt_get (s : ByteArray) (k : Nat) (h : k < s.size) : okAt s k = okC (decide (k = 0)) (s[k].toNat : Int) := by
  unfold okAt
  have e : s.data.toList.getD k 0 = s[k] := by
    rw [List.getD_eq_getElem?_getD, List.getElem?_eq_getElem (by simpa using h)]; rfl
  rw [e]

theorem nameB_bad {s : ByteArray} {k : Nat} (h : k < s.size) (hb : okAt s k = false) : nameB s = false := by
  unfold nameB
  rw [Bool.and_eq_false_iff]
  right
  rw [List.all_eq_false]
  exact ⟨k, List.mem_range.2 h, by rw [hb]; decide⟩
theorem nameB_end {s : ByteArray} (h : ∀ j, j < s.size → okAt s j = true) : nameB s = (decide (0 < s.size) && decide (s.size ≤ 24)) := by
  unfold nameB
  rw [show (List.range s.size).all (okAt s) = true from List.all_eq_true.2 (fun j hj => h j (List.mem_range.1 hj)), Bool.and_true]

set_option maxHeartbeats 2000000 in
theorem name_any (s : ByteArray) (w : World) (hs : s.size ≤ maxLen) : Calls Try.prog 28 #[.string s] w fun e w' => e = .returned (.bool (nameB s)) ∧ w = w' := by
  unfold maxLen at hs
  obtain ⟨r, hr⟩ : ∃ r, nameB s = r := ⟨_, rfl⟩
  rw [hr]
  have Hr := Lib.hid hr
  clear hr
  go_enter Try.func28, Try.ntmps28
  go_wp2
  go_loop [3, 4, 5, 8] (fun _ _ _ i => ∃ k : Nat, k ≤ s.size ∧ i = .int .i64 k ∧ ∀ j, j < k → okAt s j = true) (fun _ _ _ i => s.size - (intOf i).toNat)
  case atStart => exact ⟨0, by omega, rfl, fun j hj => by omega⟩
  case round =>
    obtain ⟨k, hk, rfl, hall⟩ := hrel
    have Hall := Lib.hid hall
    clear hall
    by_cases hlt : k < s.size
    · have hok := okAt_get s k hlt
      have hc0 : (0 : Int) ≤ (s[k].toNat : Int) := by omega
      have hc1 : (s[k].toNat : Int) ≤ 255 := by have := s[k].toNat_lt; omega
      have hcl : ((s[k].toNat : Int) < 48 ∨ (48 ≤ (s[k].toNat : Int) ∧ (s[k].toNat : Int) ≤ 57) ∨ (58 ≤ (s[k].toNat : Int) ∧ (s[k].toNat : Int) ≤ 64) ∨ (65 ≤ (s[k].toNat : Int) ∧ (s[k].toNat : Int) ≤ 90) ∨ (91 ≤ (s[k].toNat : Int) ∧ (s[k].toNat : Int) ≤ 94) ∨ (95 ≤ (s[k].toNat : Int) ∧ (s[k].toNat : Int) ≤ 95) ∨ (96 ≤ (s[k].toNat : Int) ∧ (s[k].toNat : Int) ≤ 96) ∨ (97 ≤ (s[k].toNat : Int) ∧ (s[k].toNat : Int) ≤ 122) ∨ 122 < (s[k].toNat : Int)) := by omega
      have Hok := Lib.hid hok
      clear hok
      have hfin : Hid (okAt s k = true → ∀ j, j < k + 1 → okAt s j = true) := fun h j hj => by
        by_cases hjk : j = k
        · rw [hjk]; exact h
        · exact Hall.out j (by omega)
      have hbad : Hid (okAt s k = false → r = false) := fun h => by rw [← Hr.out]; exact nameB_bad hlt h
      by_cases hk0 : k = 0
      · subst hk0
        rcases hcl with h | ⟨h, h'⟩ | ⟨h, h'⟩ | ⟨h, h'⟩ | ⟨h, h'⟩ | ⟨h, h'⟩ | ⟨h, h'⟩ | ⟨h, h'⟩ | h
        all_goals
          have hv : okC (decide (0 = 0)) (s[0].toNat : Int) = decide (97 ≤ (s[0].toNat : Int) ∧ (s[0].toNat : Int) ≤ 122 ∨ 65 ≤ (s[0].toNat : Int) ∧ (s[0].toNat : Int) ≤ 90) := by unfold okC; simp
          have Hv := Lib.hid hv
          clear hv
          go_wp2
          all_goals first
            | (refine ⟨⟨1, by omega, rfl, hfin.out ?_⟩, ?_⟩
               · rw [Hok.out, Hv.out]; first | (simp; done) | (simp; omega)
               · first | (simp [intOf]; omega) | (simp [intOf]; done))
            | (go_ret; exact ⟨ret_bool (hbad.out (by rw [Hok.out, Hv.out]; first | (simp; done) | (simp; omega))).symm, rfl⟩)
            | (exfalso; simp at *; omega)
      · rcases hcl with h | ⟨h, h'⟩ | ⟨h, h'⟩ | ⟨h, h'⟩ | ⟨h, h'⟩ | ⟨h, h'⟩ | ⟨h, h'⟩ | ⟨h, h'⟩ | h
        all_goals
          have hv : okC (decide (k = 0)) (s[k].toNat : Int) = decide (97 ≤ (s[k].toNat : Int) ∧ (s[k].toNat : Int) ≤ 122 ∨ 65 ≤ (s[k].toNat : Int) ∧ (s[k].toNat : Int) ≤ 90 ∨ ((s[k].toNat : Int) = 95 ∨ 48 ≤ (s[k].toNat : Int) ∧ (s[k].toNat : Int) ≤ 57)) := by unfold okC; simp [hk0]
          have Hv := Lib.hid hv
          clear hv
          have k0 : ¬ (k : Int) = 0 := by omega
          go_wp2
          all_goals first
            | (refine ⟨⟨k + 1, by omega, by go_num, hfin.out ?_⟩, ?_⟩
               · rw [Hok.out, Hv.out]; first | (simp; done) | (simp; omega)
               · first | (simp [intOf]; omega) | (simp [intOf]; done))
            | (go_ret; exact ⟨ret_bool (hbad.out (by rw [Hok.out, Hv.out]; first | (simp; done) | (simp; omega))).symm, rfl⟩)
            | (exfalso; simp at *; omega)
    · obtain rfl : k = s.size := by omega
      have hn := nameB_end Hall.out
      rw [Hr.out] at hn
      have Hn := Lib.hid hn
      clear hn
      go_wp2
      all_goals go_ret
      all_goals exact ⟨ret_bool (by rw [Hn.out]; first | (simp [*]; done) | (simp; omega) | (simp [*]; omega) | omega), rfl⟩
set_option maxHeartbeats 2000000 in
theorem rname_any (s : ByteArray) (w : World) (hs : s.size ≤ maxLen) : Calls Try.prog 34 #[.string s] w fun e w' => e = .returned (.bool (nameB s)) ∧ w = w' := by
  unfold maxLen at hs
  obtain ⟨r, hr⟩ : ∃ r, nameB s = r := ⟨_, rfl⟩
  rw [hr]
  have Hr := Lib.hid hr
  clear hr
  go_enter Try.func34, Try.ntmps34
  go_wp2
  go_loop [3, 4, 5, 6] (fun i _ _ _ => ∃ k : Nat, k ≤ s.size ∧ i = .int .i64 k ∧ ∀ j, j < k → okAt s j = true) (fun i _ _ _ => s.size - (intOf i).toNat)
  case atStart => exact ⟨0, by omega, rfl, fun j hj => by omega⟩
  case round =>
    obtain ⟨k, hk, rfl, hall⟩ := hrel
    have Hall := Lib.hid hall
    clear hall
    by_cases hlt : k < s.size
    · have hok := okAt_get s k hlt
      have hc0 : (0 : Int) ≤ (s[k].toNat : Int) := by omega
      have hc1 : (s[k].toNat : Int) ≤ 255 := by have := s[k].toNat_lt; omega
      have hcl : ((s[k].toNat : Int) < 48 ∨ (48 ≤ (s[k].toNat : Int) ∧ (s[k].toNat : Int) ≤ 57) ∨ (58 ≤ (s[k].toNat : Int) ∧ (s[k].toNat : Int) ≤ 64) ∨ (65 ≤ (s[k].toNat : Int) ∧ (s[k].toNat : Int) ≤ 90) ∨ (91 ≤ (s[k].toNat : Int) ∧ (s[k].toNat : Int) ≤ 94) ∨ (95 ≤ (s[k].toNat : Int) ∧ (s[k].toNat : Int) ≤ 95) ∨ (96 ≤ (s[k].toNat : Int) ∧ (s[k].toNat : Int) ≤ 96) ∨ (97 ≤ (s[k].toNat : Int) ∧ (s[k].toNat : Int) ≤ 122) ∨ 122 < (s[k].toNat : Int)) := by omega
      have Hok := Lib.hid hok
      clear hok
      have hfin : Hid (okAt s k = true → ∀ j, j < k + 1 → okAt s j = true) := fun h j hj => by
        by_cases hjk : j = k
        · rw [hjk]; exact h
        · exact Hall.out j (by omega)
      have hbad : Hid (okAt s k = false → r = false) := fun h => by rw [← Hr.out]; exact nameB_bad hlt h
      by_cases hk0 : k = 0
      · subst hk0
        rcases hcl with h | ⟨h, h'⟩ | ⟨h, h'⟩ | ⟨h, h'⟩ | ⟨h, h'⟩ | ⟨h, h'⟩ | ⟨h, h'⟩ | ⟨h, h'⟩ | h
        all_goals
          have hv : okC (decide (0 = 0)) (s[0].toNat : Int) = decide (97 ≤ (s[0].toNat : Int) ∧ (s[0].toNat : Int) ≤ 122 ∨ 65 ≤ (s[0].toNat : Int) ∧ (s[0].toNat : Int) ≤ 90) := by unfold okC; simp
          have Hv := Lib.hid hv
          clear hv
          go_wp2
          all_goals first
            | (refine ⟨⟨1, by omega, rfl, hfin.out ?_⟩, ?_⟩
               · rw [Hok.out, Hv.out]; first | (simp; done) | (simp; omega)
               · first | (simp [intOf]; omega) | (simp [intOf]; done))
            | (go_ret; exact ⟨ret_bool (hbad.out (by rw [Hok.out, Hv.out]; first | (simp; done) | (simp; omega))).symm, rfl⟩)
            | (exfalso; simp at *; omega)
      · rcases hcl with h | ⟨h, h'⟩ | ⟨h, h'⟩ | ⟨h, h'⟩ | ⟨h, h'⟩ | ⟨h, h'⟩ | ⟨h, h'⟩ | ⟨h, h'⟩ | h
        all_goals
          have hv : okC (decide (k = 0)) (s[k].toNat : Int) = decide (97 ≤ (s[k].toNat : Int) ∧ (s[k].toNat : Int) ≤ 122 ∨ 65 ≤ (s[k].toNat : Int) ∧ (s[k].toNat : Int) ≤ 90 ∨ ((s[k].toNat : Int) = 95 ∨ 48 ≤ (s[k].toNat : Int) ∧ (s[k].toNat : Int) ≤ 57)) := by unfold okC; simp [hk0]
          have Hv := Lib.hid hv
          clear hv
          have k0 : ¬ (k : Int) = 0 := by omega
          go_wp2
          all_goals first
            | (refine ⟨⟨k + 1, by omega, by go_num, hfin.out ?_⟩, ?_⟩
               · rw [Hok.out, Hv.out]; first | (simp; done) | (simp; omega)
               · first | (simp [intOf]; omega) | (simp [intOf]; done))
            | (go_ret; exact ⟨ret_bool (hbad.out (by rw [Hok.out, Hv.out]; first | (simp; done) | (simp; omega))).symm, rfl⟩)
            | (exfalso; simp at *; omega)
    · obtain rfl : k = s.size := by omega
      have hn := nameB_end Hall.out
      rw [Hr.out] at hn
      have Hn := Lib.hid hn
      clear hn
      go_wp2
      all_goals go_ret
      all_goals exact ⟨ret_bool (by rw [Hn.out]; first | (simp [*]; done) | (simp; omega) | (simp [*]; omega) | (rw [Bool.eq_iff_iff]; simp; omega) | omega), rfl⟩

theorem rname_is (r : Bool) (s : ByteArray) (w : World) (hs : s.size ≤ maxLen) (h : Hid (nameB s = r)) : Calls Try.prog 34 #[.string s] w fun e w' => e = .returned (.bool r) ∧ w = w' := by
  have := rname_any s w hs
  rwa [h.out] at this


end Go.Proofs.Ytggmihnhdojepaa
