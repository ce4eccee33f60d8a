/- Layer 2 (digest): the text of a state. -/
import Derived.Test.YtojkpoikamcgkaaDoorOwnA
import Derived.Laws.IdiomStrings
namespace Go.Proofs.YtojkpoikamcgkaaDoor
open Go.RowKit
set_option linter.unusedVariables false
set_option linter.unusedSimpArgs false
attribute [local go_sem] ext_cell ext_frozen lt_ext ext_drew

/-- The table of the digits. -/
def HexTab (w : World) : Prop := 0 < w.heap.size ∧ ∀ i, i < 16 → w.cell? ⟨0, i, none⟩ = some (.int .u8 ((hexC i).toNat : Int))
theorem HexTab.below {w w' : World} (h : HexTab w) (hb : Below w.heap.size w w') : HexTab w' := ⟨Nat.lt_of_lt_of_le h.1 hb.size, fun i hi => (hb.cell (p := ⟨0, i, none⟩) h.1).trans (h.2 i hi)⟩
def outV (n k : Nat) : Array Value := ((List.range 16).map fun j => Value.int .u8 (if j < k then ((hexC (n / 2 ^ (60 - 4 * j) % 16)).toNat : Int) else 0)).toArray
theorem outV_zero (n : Nat) : outV n 0 = #[.int .u8 0, .int .u8 0, .int .u8 0, .int .u8 0, .int .u8 0, .int .u8 0, .int .u8 0, .int .u8 0, .int .u8 0, .int .u8 0, .int .u8 0, .int .u8 0, .int .u8 0, .int .u8 0, .int .u8 0, .int .u8 0] := rfl
theorem outV_step {n k : Nat} (hk : k < 16) : (outV n k).setIfInBounds k (.int .u8 ((hexC (n / 2 ^ (60 - 4 * k) % 16)).toNat : Int)) = outV n (k + 1) := by
  apply Array.ext_getElem?
  intro i
  unfold outV
  rw [Array.getElem?_setIfInBounds]
  simp only [List.getElem?_toArray, List.getElem?_map, List.getElem?_range', List.size_toArray, List.length_map, List.length_range]
  by_cases h16 : i < 16
  · rw [List.getElem?_range h16]
    simp only [Option.map_some]
    by_cases hik : k = i
    · subst hik
      simp [hk]
    · rw [if_neg hik]
      by_cases hlt : i < k
      · rw [if_pos hlt, if_pos (by omega)]
      · rw [if_neg hlt, if_neg (by omega)]
  · rw [List.getElem?_eq_none (by simpa using h16)]
    simp only [Option.map_none]
    split
    · omega
    · rfl
theorem hexL_len (n : Nat) : (hexL n).length = 16 := by simp [hexL]
theorem hexL_at (n j : Nat) (hj : j < (hexL n).length) : (hexL n)[j] = hexC (n / 2 ^ (60 - 4 * j) % 16) := by
  have e : (hexL n)[j]? = some (hexC (n / 2 ^ (60 - 4 * j) % 16)) := by
    have hj' : j < 16 := by rw [hexL_len] at hj; exact hj
    unfold hexL
    rw [List.getElem?_map, List.getElem?_range hj']
    rfl
  exact (List.getElem?_eq_some_iff.1 e).2
theorem and15 (a : Nat) (ha : a < 18446744073709551616) : bits .and .u64 (a : Int) 15 = ((a % 16 : Nat) : Int) := by
  have h := bits_and_u64_nat a 15 ha (by decide)
  have e : a &&& 15 = a % 16 := Nat.and_two_pow_sub_one_eq_mod a 4
  rw [e] at h
  exact h
set_option maxRecDepth 100000 in
set_option maxHeartbeats 2000000 in
theorem text_any (s : Nat) (hs : s < 18446744073709551616) (w : World) (ht : HexTab w) :
    Calls Tryd.prog 56 #[.int .u64 s] w fun e w' => e = .returned (.string ⟨(hexL s).toArray⟩) ∧ Below w.heap.size w w' := by
  have HT := Lib.hid ht
  clear ht
  go_enter Tryd.func56, Tryd.ntmps56
  go_wp2_with fail
  go_loopw [4, 5] (fun _ i wr => ∃ k : Nat, k ≤ 16 ∧ i = .int .i64 k ∧ Below w.heap.size w wr ∧ Bk wr w.heap.size (outV s k) 108) (fun _ i _ => 16 - (intOf i).toNat)
  case atStart => exact ⟨0, by omega, rfl, below_self _ _, Bk.new _ _ _⟩
  case round =>
    obtain ⟨k, hk, rfl, hlow, hb⟩ := hrel
    generalize wr = wA at *
    have hz := hlow.size
    have l0 := hb.lt
    by_cases hlt : k < 16
    · have hkl : (k : Int) < 16 := by omega
      have hq : (60 - 4 * (k : Int)).toNat = 60 - 4 * k := by omega
      have h60 : 0 ≤ 60 - 4 * (k : Int) := by omega
      have HA := Lib.hid (And.intro hlow hb)
      have f0 := hb.free k
      have hc : wA.cell? ⟨w.heap.size, k, none⟩ = some (.int .u8 0) := by
        rw [hb.cell]
        unfold outV
        simp [hlt]
      have ha : bits .and .u64 ((s : Int) / 2 ^ (60 - 4 * k)) 15 = ((s / 2 ^ (60 - 4 * k) % 16 : Nat) : Int) := by rw [shr_cast]; exact and15 _ (div_lt64 _ hs)
      have hr : s / 2 ^ (60 - 4 * k) % 16 < 16 := Nat.mod_lt _ (by decide)
      have hst := outV_step (n := s) hlt
      obtain ⟨r, hr9⟩ : ∃ r, s / 2 ^ (60 - 4 * k) % 16 = r := ⟨_, rfl⟩
      rw [hr9] at ha hr hst
      have Hst := Lib.hid hst
      clear hr9 hst
      have ht1 := (HT.out.below hlow).2 _ hr
      have ht0 := (HT.out.below hlow).1
      have hri : (r : Int) < 16 := by omega
      clear hlow hb
      go_wp2_with fail
      go_roundw
      case rel => exact ⟨k + 1, by omega, by go_num, HA.out.1.setCell (by simp) _, by rw [← Hst.out]; exact HA.out.2.set_ k _⟩
      case measure => simp [intOf]; omega
    · obtain rfl : k = 16 := by omega
      have HA := Lib.hid (And.intro hlow hb)
      have hcv : (convert 67 9 (.slice (some ⟨w.heap.size, 0, none⟩) 16 16)).run Tryd.prog wA = .ok (.string ⟨(hexL s).toArray⟩) wA := by
        have h := run_convert_bytes_back (P := Tryd.prog) wA 67 9 5 ⟨w.heap.size, 0, none⟩ 16 (hexL s) Tryd.underlying67 Tryd.underlying5 Tryd.underlying9 (fun j hj => by
          have hj' : j < 16 := by simpa [hexL] using hj
          rw [Addr.add_lit, Nat.zero_add, hb.cell]
          rw [hexL_at s j hj]
          unfold outV
          simp [hj'])
        exact h
      clear hlow hb
      go_wp2_with fail
      go_ret
      exact ⟨rfl, HA.out.1⟩
end Go.Proofs.YtojkpoikamcgkaaDoor
