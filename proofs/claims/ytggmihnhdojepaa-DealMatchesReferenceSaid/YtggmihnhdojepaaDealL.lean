/- Layer 34 (deal), the reference: means that are formed, their sum, the sums of lines. -/
import Derived.Test.YtggmihnhdojepaaDealI
namespace Go.Proofs.Ytggmihnhdojepaa
open Go.RowKit
set_option linter.unusedVariables false
set_option linter.unusedSimpArgs false
attribute [local go_sem] ext_cell ext_frozen lt_ext ext_drew

def newOf (ms : List Mn) (nm : ByteArray) (j : Nat) : Prop := ∀ i, i < j → ∀ m, ms[i]? = some m → m.1 ≠ nm
theorem newOf_end {ms : List Mn} {nm : ByteArray} {k : Nat} (h : newOf ms nm k) : hasM (ms.take k) nm = false := by
  unfold hasM
  rw [List.any_eq_false]
  intro x hx
  obtain ⟨i, hi, rfl⟩ := List.getElem_of_mem hx
  have hi' : i < k := by rw [List.length_take] at hi; omega
  have hl : i < ms.length := by rw [List.length_take] at hi; omega
  have := h i hi' _ (List.getElem?_eq_getElem hl)
  rw [List.getElem_take]
  simpa using this
theorem hasM_at {ms : List Mn} {k j : Nat} {m : Mn} (hj : j < k) (h : ms[j]? = some m) : hasM (ms.take k) m.1 = true := by
  unfold hasM
  rw [List.any_eq_true]
  refine ⟨m, ?_, by simp⟩
  refine List.mem_of_getElem? (i := j) ?_
  rw [List.getElem?_take_of_lt hj]; exact h

set_option maxRecDepth 100000 in
set_option maxHeartbeats 4000000 in
theorem formed_any (A : Option Addr) (ms : List Mn) (cap n : Nat) (w : World) (B : Nat) (h : Elems tMean w B A ms) (hB : B ≤ w.heap.size) (hn : ms.length = n) (hl : n ≤ 9223372036854775807) :
    Calls Try.prog 35 #[.slice A n cap] w fun e w' => e = .returned (.bool (totB ms)) ∧ ∃ q, w' = w.drewN q := by
  subst hn
  obtain ⟨R, hR⟩ : ∃ v, totB ms = v := ⟨_, rfl⟩
  rw [hR]
  have HR := Lib.hid hR
  have hE9 := h
  clear hR h
  go_enter Try.func35, Try.ntmps35
  by_cases h12 : ms.length ≤ 12
  · have n12' : (ms.length : Int) ≤ 12 := by omega
    go_wp2_with fail
    go_loopw [3, 4] (fun i _ wr => ∃ (k q : Nat), k ≤ ms.length ∧ i = .int .i64 k ∧ okTo ms k ∧ wr = w.drewN q) (fun i _ _ => ms.length - (intOf i).toNat)
    case atStart => exact ⟨0, 0, by omega, rfl, fun j hj => by omega, rfl⟩
    case round =>
      obtain ⟨k, q, hk, rfl, hall, rfl⟩ := hrel
      have Hall := Lib.hid hall
      clear hall
      by_cases hlt : k < ms.length
      · obtain ⟨b, off, nm, a, rfl, hb, Hk, c0, c2, f0, f1⟩ := pick_mean hE9 hlt
        have bw : b < w.heap.size := by omega
        have HE9 := Lib.hid hE9
        obtain ⟨nb, hnb⟩ : ∃ v, nameB nm = v := ⟨_, rfl⟩
        have hmn : meanB (nm, a) = (nb && decide (1 ≤ a) && decide (a ≤ 1000000000)) := by rw [← hnb]; rfl
        have Hnb := Lib.hid hnb
        have Hmn := Lib.hid hmn
        have F0 := Lib.hid f0
        clear hnb hmn f0 hE9
        by_cases hm : nb = true ∧ 1 ≤ a ∧ a ≤ 1000000000
        · obtain ⟨rfl, a1, a2⟩ := hm
          go_wp2_with (go_at_call 34; refine (rname_is _ _ _ F0.out Hnb).mono ?_; rintro e w' ⟨rfl, rfl⟩)
          go_loopw [4] (fun i wr => ∃ (j q2 : Nat), j ≤ k ∧ i = .int .i64 j ∧ newOf ms nm j ∧ wr = w.drewN q2) (fun i _ => k - (intOf i).toNat)
          case atStart => exact ⟨0, q, by omega, rfl, fun i hi => by omega, rfl⟩
          case round =>
            obtain ⟨j, q2, hj, rfl, hnew, rfl⟩ := hrel
            have Hnew := Lib.hid hnew
            clear hnew
            by_cases hjk : j < k
            · obtain ⟨b', off', nm2, a', hA, _, Hk2, d0, _, _, _⟩ := pick_mean HE9.out (show j < ms.length by omega)
              simp only [Option.some.injEq, Addr.mk.injEq, and_true] at hA
              obtain ⟨rfl, rfl⟩ := hA
              have hjl : (j : Int) < (ms.length : Int) := by omega
              have hkl : (k : Int) < (ms.length : Int) := by omega
              by_cases heq : nm2 = nm
              · subst heq
                have hbad : badM ms k (nm2, a) = true := by
                  unfold badM
                  rw [hasM_at (m := (nm2, a')) hjk Hk2.out]; rfl
                obtain rfl : R = false := by rw [← HR.out]; unfold totB; rw [okM_bad Hk.out hbad, Bool.and_false]
                clear hbad
                go_wp2_with fail
                go_quiet (fail)
                go_wp2_with fail
                go_ret
                exact ⟨rfl, q2 + nq, World.drewN_drewN _ _ _⟩
              · have hsne : (nm2.toList == nm.toList) = false := by
                  rw [beq_eq_false_iff_ne, ByteArray.toList_eq, ByteArray.toList_eq]
                  exact fun h => heq (Go.WideShapes.bytes_inj h)
                go_wp2_with fail
                go_quiet (fail)
                go_wp2_with fail
                go_roundw
                case rel =>
                  refine ⟨j + 1, _, by omega, by go_num, fun i hi m hm => ?_, rfl⟩
                  by_cases e : i = j
                  · subst e
                    rw [Hk2.out] at hm
                    simp only [Option.some.injEq] at hm
                    rw [← hm]; exact heq
                  · exact Hnew.out i (by omega) m hm
                case measure => simp [intOf]; omega
            · obtain rfl : j = k := by omega
              have hok : badM ms j (nm, a) = false := by
                unfold badM
                rw [newOf_end Hnew.out, Hmn.out]; simp; omega
              have Hok := Lib.hid hok
              clear hok
              go_wp2_with fail
              go_roundw
              case rel => exact ⟨j + 1, q2, by omega, by go_num, okTo_step Hall.out Hk.out Hok.out, rfl⟩
              case measure => simp [intOf]; omega
        · have hbad : badM ms k (nm, a) = true := by
            unfold badM
            rw [Hmn.out]
            cases nb
            · simp
            · simp; right; by_cases h : 1 ≤ a
              · exact .inr (by by_cases h9 : a ≤ 1000000000; exact absurd ⟨rfl, h, h9⟩ hm; omega)
              · exact .inl (by omega)
          obtain rfl : R = false := by rw [← HR.out]; unfold totB; rw [okM_bad Hk.out hbad, Bool.and_false]
          have hno : nb = false ∨ (nb = true ∧ a < 1) ∨ (nb = true ∧ 1 ≤ a ∧ 1000000000 < a) := by
            cases nb
            · exact .inl rfl
            · right
              by_cases h : a < 1
              · exact .inl ⟨rfl, h⟩
              · exact .inr ⟨rfl, by omega, by by_cases h9 : a ≤ 1000000000; exact absurd ⟨rfl, by omega, h9⟩ hm; omega⟩
          clear hm hbad
          rcases hno with rfl | ⟨rfl, h9⟩ | ⟨rfl, h9, h8⟩
          all_goals
            go_wp2_with (go_at_call 34; refine (rname_is _ _ _ F0.out Hnb).mono ?_; rintro e w' ⟨rfl, rfl⟩)
            go_ret
            exact ⟨rfl, _, rfl⟩
      · obtain rfl : k = ms.length := by omega
        have hok := okM_all Hall.out
        obtain rfl : R = true := by rw [← HR.out]; unfold totB; rw [hok, decide_eq_true h12]; rfl
        clear hE9 hok
        go_wp2_with fail
        go_ret
        exact ⟨rfl, _, rfl⟩
  · have n12' : 12 < (ms.length : Int) := by omega
    obtain rfl : R = false := by rw [← HR.out]; unfold totB; rw [decide_eq_false h12]; rfl
    go_wp2_with fail
    go_ret
    exact ⟨rfl, 0, rfl⟩

set_option maxHeartbeats 2000000 in
theorem rsum_any (A : Option Addr) (ms : List Mn) (cap n : Nat) (w : World) (B : Nat) (h : Elems tMean w B A ms) (hB : B ≤ w.heap.size) (hn : ms.length = n) (hl : n ≤ 12) (hok : okM ms = true) :
    Calls Try.prog 36 #[.slice A n cap] w fun e w' => e = .returned (.int .i64 (sumM ms)) ∧ w = w' := by
  subst hn
  have hT : okTo ms ms.length := fun j hj m hm => by
    unfold okM at hok
    have := List.all_eq_true.1 hok j (List.mem_range.2 hj)
    rw [hm] at this
    simpa using this
  have HT := Lib.hid hT
  clear hok hT
  go_enter Try.func36, Try.ntmps36
  go_wp2
  go_loop [3, 4] (fun s i => ∃ k : Nat, k ≤ ms.length ∧ i = .int .i64 k ∧ s = .int .i64 (sumM (ms.take k))) (fun _ i => ms.length - (intOf i).toNat)
  case atStart => exact ⟨0, by omega, rfl, rfl⟩
  case round =>
    obtain ⟨k, hk, rfl, rfl⟩ := hrel
    obtain ⟨s1, s2⟩ := okTo_sum k hk (fun j hj => HT.out j (by omega))
    by_cases hlt : k < ms.length
    · obtain ⟨b, off, nm, a, rfl, hb, Hk, c0, c2, f0, f1⟩ := pick_mean h hlt
      obtain ⟨s3, s4⟩ := okTo_sum (k + 1) hlt (fun j hj => HT.out j (by omega))
      have Ht := Lib.hid (sumM_take Hk.out)
      rw [Ht.out] at s3 s4
      have bw : b < w.heap.size := by omega
      have hkl : (k : Int) < (ms.length : Int) := by omega
      generalize sumM (ms.take k) = S at *
      simp only at Ht s3 s4
      go_wp2
      go_round
      case rel => exact ⟨k + 1, by omega, by go_num, by rw [Ht.out]⟩
      case measure => simp [intOf]; omega
    · obtain rfl : k = ms.length := by omega
      go_wp2
      go_ret
      exact ⟨rfl, rfl⟩
end Go.Proofs.Ytggmihnhdojepaa
