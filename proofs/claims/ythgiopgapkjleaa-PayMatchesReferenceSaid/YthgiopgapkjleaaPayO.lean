/- Layer 28 (pay): the reference's New. -/
import Derived.Test.YthgiopgapkjleaaPayM
namespace Go.Proofs.Ythgiopgapkjleaa
open Go.RowKit
set_option linter.unusedVariables false
set_option linter.unusedSimpArgs false
attribute [local go_sem] ext_cell ext_frozen lt_ext ext_drew

def startR (total till : Int) : RefS := ⟨total, till, 0, [], []⟩
theorem sim_start {total till : Int} (h : 0 ≤ till) : SimP (startS total till) (startR total till) := by
  refine ⟨rfl, rfl, rfl, rfl, fun i hi => absurd hi (by simp [startR]), ?_, by simp [startS, startR, owedR, doneR]⟩
  show (1 : Int) = stateR (startR total till)
  unfold stateR doneR startR
  simp; omega
def NewREnd (w : World) (E total till : Int) (e : Ending) (w' : World) : Prop :=
  Below w.heap.size w w' ∧ ((E = 0 ∧ ∃ rb, e = .returned (.tuple #[.pointer (some ⟨rb, 0, none⟩), .int .i64 0]) ∧ RefAt w' rb w.heap.size 0 (startR total till)) ∨ (E ≠ 0 ∧ e = .returned (.tuple #[.pointer none, .int .i64 E])))

def newOf (ms : List Mn) (nm : ByteArray) (j : Nat) : Prop := ∀ i, i < j → ∀ m, ms[i]? = some m → m.1 ≠ nm
theorem newOf_end {ms : List Mn} {nm : ByteArray} {k : Nat} (h : newOf ms nm k) : hasM (ms.take k) nm = false := by
  unfold hasM
  rw [List.any_eq_false]
  intro x hx
  obtain ⟨i, hi, rfl⟩ := List.mem_iff_getElem.1 hx
  have hi' : i < k ∧ i < ms.length := by simp at hi; omega
  rw [List.getElem_take]
  simpa using h i hi'.1 _ (List.getElem?_eq_getElem hi'.2)
theorem hasM_at {ms : List Mn} {k j : Nat} {m : Mn} (hj : j < k) (h : ms[j]? = some m) : hasM (ms.take k) m.1 = true := by
  unfold hasM
  rw [List.any_eq_true]
  refine ⟨m, ?_, by simp⟩
  rw [List.mem_iff_getElem?]
  exact ⟨j, by rw [List.getElem?_take_of_lt hj]; exact h⟩

set_option maxRecDepth 100000 in
set_option maxHeartbeats 4000000 in
theorem rnew_any (A : Option Addr) (ls : List Ln) (cap n : Nat) (total : Int) (A2 : Option Addr) (ms : List Mn) (cap2 n2 : Nat) (till : Int) (w : World) (B : Nat) (h : Elems tLine w B A ls) (h2 : Elems tMean w B A2 ms) (hB : B ≤ w.heap.size) (hn : ls.length = n) (hl : n ≤ 60) (ht : fits total) (hn2 : ms.length = n2) (hl2 : n2 ≤ 9223372036854775807) :
    Calls Try.prog 12 #[.agg #[.slice A n cap, .int .i64 total], .slice A2 n2 cap2, .int .i64 till] w (NewREnd w (newE ls total ms till) total till) := by
  subst hn2
  obtain ⟨E, hE⟩ : ∃ v, newE ls total ms till = v := ⟨_, rfl⟩
  rw [hE]
  obtain ⟨r, hr⟩ : ∃ v, rightB ls total = v := ⟨_, rfl⟩
  have hE2 := hE.symm
  unfold newE at hE2
  rw [hr] at hE2
  have HE := Lib.hid hE2
  have Hr := Lib.hid hr
  have HH := Lib.hid (And.intro h h2)
  have Hn := Lib.hid hn
  have Ht := Lib.hid ht
  clear hE hE2 hr h h2 hn ht
  go_enter Try.func12, Try.ntmps12
  go_wp2_with fail
  refine (rright_is r A ls cap n total _ B (HH.out.1.keep ((Below.refl _ _).alloc hB _) (Nat.le_refl _)) (by simp; omega) Hn.out hl Ht.out Hr).mono ?_
  rintro e w2 ⟨rfl, hb⟩
  have hbk : Bk w2 w.heap.size #[.slice A n cap, .int .i64 total] 24 := (Bk.new w _ _).below hb
  have c1 : w2.cell? ⟨w.heap.size, 1, none⟩ = some (.int .i64 total) := hbk.cell 1
  have lg := hbk.lt
  have hfin : Hid (Below w.heap.size w w2) := Below.trans0 (below_self w _) hb
  have hE9 := HH.out.2.keep (hfin.out.mono hB) (Nat.le_refl _)
  have hBW : B ≤ w2.heap.size := by omega
  have HBk := Lib.hid hbk
  clear hb hbk HH
  by_cases hgood : r = true ∧ 0 ≤ till ∧ till ≤ 1000000000 ∧ ms.length ≤ 12
  · obtain ⟨rfl, t0, t1, n12⟩ := hgood
    have n12' : (ms.length : Int) ≤ 12 := by omega
    have hE1 : E = if okM ms then (if sumM ms = total then 0 else 19) else 1 := by rw [HE.out]; simp [t0, t1, n12]
    have htot : Hid (0 ≤ total ∧ total ≤ 1000000000) := by
      have h9 := Hr.out
      simp only [rightB, Bool.and_eq_true, decide_eq_true_eq] at h9
      have := sumOf_bd ls h9.1.1.2
      have e1 := h9.1.2
      have e2 := h9.2
      exact Lib.hid (by omega)
    have HE1 := Lib.hid hE1
    clear HE hE1
    go_wp2_with fail
    go_loopw [8, 9, 10] (fun s i _ wr => ∃ (k q : Nat), k ≤ ms.length ∧ i = .int .i64 k ∧ s = .int .i64 (sumM (ms.take k)) ∧ okTo ms k ∧ wr = w2.drewN q) (fun _ i _ _ => ms.length - (intOf i).toNat)
    case atStart => exact ⟨0, 0, by omega, rfl, rfl, fun j hj => by omega, rfl⟩
    case round =>
      obtain ⟨k, q, hk, rfl, rfl, hall, rfl⟩ := hrel
      have hs := okTo_sum k hk hall
      obtain ⟨hs1, hs2⟩ := hs
      have Hall := Lib.hid hall
      clear hall
      by_cases hlt : k < ms.length
      · obtain ⟨b, off, nm, a, rfl, hb, Hk, c0, c2, f0, f1⟩ := pick_mean hE9 hlt
        have Hs := Lib.hid (sumM_take Hk.out)
        have bw : b < w2.heap.size := by omega
        have HE9 := Lib.hid hE9
        clear hE9
        generalize sumM (ms.take k) = S at *
        obtain ⟨nb, hnb⟩ : ∃ v, nameB nm = v := ⟨_, rfl⟩
        have hmn : meanB (nm, a) = (nb && decide (1 ≤ a) && decide (a ≤ 1000000000)) := by rw [← hnb]; rfl
        have Hnb := Lib.hid hnb
        have Hmn := Lib.hid hmn
        have F0 := Lib.hid f0
        clear hnb hmn f0
        by_cases hm : nb = true ∧ 1 ≤ a ∧ a ≤ 1000000000
        · obtain ⟨rfl, a1, a2⟩ := hm
          go_wp2_with (go_at_call 29; refine (rname_is _ _ _ F0.out Hnb).mono ?_; rintro e w' ⟨rfl, rfl⟩)
          obtain ⟨wo, hwo⟩ : ∃ wo : World, wo = w2.drewN q := ⟨_, rfl⟩
          go_loopw [10] (fun i wr => ∃ (j q2 : Nat), j ≤ k ∧ i = .int .i64 j ∧ newOf ms nm j ∧ wr = w2.drewN q2) (fun i _ => k - (intOf i).toNat)
          case atStart => exact ⟨0, q, by omega, rfl, fun i hi => by omega, rfl⟩
          case round =>
            obtain ⟨j, q2, hj, rfl, hnew, rfl⟩ := hrel
            have Hnew := Lib.hid hnew
            clear hnew
            by_cases hjk : j < k
            · obtain ⟨b', off', nm2, a', hA, _, Hk2, d0, _, _, _⟩ := pick_mean HE9.out (show j < ms.length by omega)
              simp only [Option.some.injEq, Addr.mk.injEq, and_true] at hA
              obtain ⟨rfl, rfl⟩ := hA
              have hjl : (j : Int) < (ms.length : Int) := by omega
              have hkl : (k : Int) < (ms.length : Int) := by omega
              by_cases heq : nm2 = nm
              · subst heq
                have hbad : badM ms k (nm2, a) = true := by
                  unfold badM
                  rw [hasM_at (m := (nm2, a')) hjk Hk2.out]; rfl
                have hE0 : E = 1 := by rw [HE1.out, okM_bad Hk.out hbad]; rfl
                subst hE0
                clear hbad
                go_wp2_with fail
                go_quiet (fail)
                go_wp2_with fail
                go_ret2
                exact ⟨below_drewN (below_drewN hfin.out _) _, .inr ⟨by decide, rfl⟩⟩
              · have hsne : (nm2.toList == nm.toList) = false := by
                  rw [beq_eq_false_iff_ne, ByteArray.toList_eq, ByteArray.toList_eq]
                  exact fun h => heq (Go.WideShapes.bytes_inj h)
                go_wp2_with fail
                go_quiet (fail)
                go_wp2_with fail
                go_roundw
                case rel =>
                  refine ⟨j + 1, _, by omega, by go_num, fun i hi m hm => ?_, rfl⟩
                  by_cases e : i = j
                  · subst e
                    rw [Hk2.out] at hm
                    simp only [Option.some.injEq] at hm
                    rw [← hm]; exact heq
                  · exact Hnew.out i (by omega) m hm
                case measure => simp [intOf]; omega
            · obtain rfl : j = k := by omega
              have hok : badM ms j (nm, a) = false := by
                unfold badM
                rw [newOf_end Hnew.out, Hmn.out]; simp; omega
              have Hok := Lib.hid hok
              clear hok
              go_wp2_with fail
              go_roundw
              case rel => exact ⟨j + 1, q2, by omega, by go_num, by rw [Hs.out], okTo_step Hall.out Hk.out Hok.out, rfl⟩
              case measure => simp [intOf]; omega
        · have hbad : badM ms k (nm, a) = true := by
            unfold badM
            rw [Hmn.out]
            cases nb
            · simp
            · simp; right; by_cases h : 1 ≤ a
              · exact .inr (by by_cases h9 : a ≤ 1000000000; exact absurd ⟨rfl, h, h9⟩ hm; omega)
              · exact .inl (by omega)
          have hE0 : E = 1 := by rw [HE1.out, okM_bad Hk.out hbad]; rfl
          subst hE0
          have hno : nb = false ∨ (nb = true ∧ a < 1) ∨ (nb = true ∧ 1 ≤ a ∧ 1000000000 < a) := by
            cases nb
            · exact .inl rfl
            · right
              by_cases h : a < 1
              · exact .inl ⟨rfl, h⟩
              · exact .inr ⟨rfl, by omega, by by_cases h9 : a ≤ 1000000000; exact absurd ⟨rfl, by omega, h9⟩ hm; omega⟩
          clear hm hbad
          rcases hno with rfl | ⟨rfl, h9⟩ | ⟨rfl, h9, h8⟩
          all_goals
            go_wp2_with (go_at_call 29; refine (rname_is _ _ _ F0.out Hnb).mono ?_; rintro e w' ⟨rfl, rfl⟩)
            go_ret2
            exact ⟨below_drewN hfin.out _, .inr ⟨by decide, rfl⟩⟩
      · obtain rfl : k = ms.length := by omega
        have hok := okM_all Hall.out
        have hE0 : E = if sumM ms = total then 0 else 19 := by rw [HE1.out, hok]; rfl
        rw [List.take_length]
        rw [List.take_length] at hs1 hs2
        have HE0 := Lib.hid hE0
        clear hok hE0 HE1 hE9
        generalize sumM ms = S at *
        by_cases hst : S = total
        · subst hst
          obtain rfl : E = 0 := by rw [HE0.out, if_pos rfl]
          go_wp2_with fail
          go_ret2
          refine ⟨?_, .inl ⟨rfl, w2.heap.size, rfl, none, 0, none, 0, ⟨?_, ⟨rfl, .inl ⟨rfl, rfl⟩⟩, ⟨rfl, .inl ⟨rfl, rfl⟩⟩, fun g hg => (by simp [Value.ownBlock] at hg), (by have := hfin.out.size; omega), by simp [startR], by simp [startR], htot.out, ?_, ⟨t0, t1⟩, fun x hx => (by simp [startR] at hx), fun x hx => (by simp [startR] at hx)⟩⟩⟩
          · have := hfin.out; (repeat (first | with_reducible exact Below.refl _ _ | with_reducible assumption | with_reducible refine Below.alloc0 ?_ _ | with_reducible refine Below.ext0 ?_ _ | with_reducible refine Below.drew ?_ | with_reducible refine below_drewN ?_ _ | (with_reducible refine Below.setCell (hp := ?hp) ?_ _; case hp => (first | (simp; done) | (simp; omega)))))
          · exact Bk.new w2 _ _
          · show 0 ≤ (0 : Int) ∧ (0 : Int) ≤ _; omega
        · obtain rfl : E = 19 := by rw [HE0.out, if_neg hst]
          go_wp2_with fail
          go_ret2
          exact ⟨below_drewN hfin.out _, .inr ⟨by decide, rfl⟩⟩
  · have hE1 : E = 1 := by
      rw [HE.out, if_neg]
      intro h
      simp only [Bool.and_eq_true, decide_eq_true_eq] at h
      exact hgood ⟨h.1.1.1.1, h.1.1.1.2, h.1.1.2, h.1.2⟩
    subst hE1
    have hno : r = false ∨ (r = true ∧ till < 0) ∨ (r = true ∧ 0 ≤ till ∧ 1000000000 < till) ∨ (r = true ∧ 0 ≤ till ∧ till ≤ 1000000000 ∧ 12 < (ms.length : Int)) := by
      cases r
      · exact .inl rfl
      · right
        by_cases h1 : till < 0
        · exact .inl ⟨rfl, h1⟩
        · by_cases h3 : 1000000000 < till
          · exact .inr (.inl ⟨rfl, by omega, h3⟩)
          · exact .inr (.inr ⟨rfl, by omega, by omega, by have : ¬ ms.length ≤ 12 := fun h => hgood ⟨rfl, by omega, by omega, h⟩; omega⟩)
    clear hgood HE
    rcases hno with rfl | ⟨rfl, h1⟩ | ⟨rfl, h1, h3⟩ | ⟨rfl, h1, h3, h4⟩
    all_goals
      go_wp2_with fail
      go_ret2
      exact ⟨hfin.out, .inr ⟨by decide, rfl⟩⟩
end Go.Proofs.Ythgiopgapkjleaa
