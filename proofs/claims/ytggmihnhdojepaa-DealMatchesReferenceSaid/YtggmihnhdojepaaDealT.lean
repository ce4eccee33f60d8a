/- Layer 34 (deal): bookings that are the same. -/
import Derived.Test.YtggmihnhdojepaaDealG
namespace Go.Proofs.Ytggmihnhdojepaa
open Go.RowKit
set_option linter.unusedVariables false
set_option linter.unusedSimpArgs false
attribute [local go_sem] ext_cell ext_frozen lt_ext ext_drew

theorem same_no {xs ys : List Pst} {k : Nat} {x y : Pst} (hx : xs[k]? = some x) (hy : ys[k]? = some y) (h : x ≠ y) : decide (xs = ys) = false := by
  rw [decide_eq_false_iff_not]
  rintro rfl
  rw [hx] at hy
  exact h (Option.some.inj hy)
theorem same_yes {xs ys : List Pst} (hl : xs.length = ys.length) (h : ∀ k, k < xs.length → xs[k]? = ys[k]?) : decide (xs = ys) = true := by
  rw [decide_eq_true_eq]
  apply List.ext_getElem? 
  intro k
  by_cases hk : k < xs.length
  · exact h k hk
  · rw [List.getElem?_eq_none (by omega), List.getElem?_eq_none (by omega)]
theorem bytes_ne {a b : ByteArray} (h : a ≠ b) : (a.toList == b.toList) = false := by
  rw [beq_eq_false_iff_ne, ByteArray.toList_eq, ByteArray.toList_eq]
  exact fun e => h (Go.WideShapes.bytes_inj e)

set_option maxRecDepth 100000 in
set_option maxHeartbeats 4000000 in
theorem same_any (A1 A2 : Option Addr) (xs ys : List Pst) (n1 c1 n2 c2 : Nat) (w : World) (B : Nat) (h1 : Elems tPst w B A1 xs) (h2 : Elems tPst w B A2 ys) (hB : B ≤ w.heap.size) (hn1 : n1 = xs.length) (hn2 : n2 = ys.length) (hl1 : n1 ≤ 100000) (hl2 : n2 ≤ 100000) :
    Calls Try.prog 18 #[.agg #[.int .i64 0, .slice A1 n1 c1], .agg #[.int .i64 0, .slice A2 n2 c2]] w fun e w' => e = .returned (.bool (decide (xs = ys))) ∧ Below w.heap.size w w' := by
  subst hn1 hn2
  obtain ⟨r, hr⟩ : ∃ v, decide (xs = ys) = v := ⟨_, rfl⟩
  rw [hr]
  have Hr := Lib.hid hr
  have HH := Lib.hid (And.intro h1 h2)
  clear hr h1 h2
  go_enter Try.func18, Try.ntmps18
  by_cases hlen : xs.length = ys.length
  · have hi : (xs.length : Int) = (ys.length : Int) := by omega
    have hi2 : ((xs.length : Int) != (ys.length : Int)) = false := by simp [hi]
    have Hlen := Lib.hid hlen
    clear hi hlen
    go_upto_region 4 with (fail)
    refine forget (fun W => Below w.heap.size w W ∧ Bk W w.heap.size #[.int .i64 0, .slice A1 xs.length c1] 34 ∧ Bk W (w.heap.size + 1) #[.int .i64 0, .slice A2 ys.length c2] 34) ⟨by (repeat (first | with_reducible exact Below.refl _ _ | with_reducible assumption | with_reducible refine Below.alloc0 ?_ _ | with_reducible refine Below.ext0 ?_ _ | with_reducible refine Below.drew ?_ | with_reducible refine below_drewN ?_ _ | (with_reducible refine Below.setCell (hp := ?hp) ?_ _; case hp => (first | (simp; done) | (simp; omega))))), (Bk.new _ _ _).alloc _, bk_new_at _ _ _ _ (by simp)⟩ ?_
    rintro W ⟨hw, b0, b1⟩
    have hE1 := HH.out.1.keep (hw.mono hB) (Nat.le_refl _)
    have hE2 := HH.out.2.keep (hw.mono hB) (Nat.le_refl _)
    have d0 := b0.cell
    have d1 := b1.cell
    have m0 := b0.lt
    have m1 := b1.lt
    have HW := Lib.hid hw
    clear hw b0 b1
    go_wp2_with fail
    go_loopw [5] (fun i wr => ∃ (k q : Nat), k ≤ xs.length ∧ i = .int .i64 k ∧ (∀ j, j < k → xs[j]? = ys[j]?) ∧ wr = W.drewN q) (fun i _ => xs.length - (intOf i).toNat)
    case atStart => exact ⟨0, 0, by omega, rfl, fun j hj => by omega, rfl⟩
    case round =>
      obtain ⟨k, q, hk, rfl, hall, rfl⟩ := hrel
      have Hall := Lib.hid hall
      clear hall
      by_cases hlt : k < xs.length
      · obtain ⟨g1, o1, kd1, nm1, a1, rfl, hb1, Hk1, p1, p2, p3, _, _, _⟩ := pick_pst hE1 hlt
        obtain ⟨g2, o2, kd2, nm2, a2, rfl, hb2, Hk2, s1, s2, s3, _, _, _⟩ := pick_pst hE2 (show k < ys.length by have := Hlen.out; omega)
        have bw1 : g1 < W.heap.size := by have := HW.out.size; omega
        have bw2 : g2 < W.heap.size := by have := HW.out.size; omega
        have hkl : (k : Int) < (xs.length : Int) := by omega
        have hkl2 : (k : Int) < (ys.length : Int) := by have := Hlen.out; omega
        by_cases heq : kd1 = kd2 ∧ nm1 = nm2 ∧ a1 = a2
        · obtain ⟨rfl, rfl, rfl⟩ := heq
          go_wp2_with fail
          go_quiet (fail)
          go_wp2_with fail
          go_roundw
          case rel =>
            refine ⟨k + 1, _, by omega, by go_num, fun j hj => ?_, rfl⟩
            by_cases e : j = k
            · subst e; rw [Hk1.out, Hk2.out]
            · exact Hall.out j (by omega)
          case measure => simp [intOf]; omega
        · obtain rfl : r = false := by
            rw [← Hr.out]
            exact same_no Hk1.out Hk2.out (fun h => heq (by simpa [Prod.mk.injEq, and_assoc] using h))
          have hno : kd1 ≠ kd2 ∨ (kd1 = kd2 ∧ nm1 ≠ nm2) ∨ (kd1 = kd2 ∧ nm1 = nm2 ∧ a1 ≠ a2) := by
            by_cases e1 : kd1 = kd2
            · by_cases e2 : nm1 = nm2
              · exact .inr (.inr ⟨e1, e2, fun e3 => heq ⟨e1, e2, e3⟩⟩)
              · exact .inr (.inl ⟨e1, e2⟩)
            · exact .inl e1
          clear heq
          rcases hno with e1 | ⟨rfl, e2⟩ | ⟨rfl, rfl, e3⟩
          · have t1 : (kd1 == kd2) = false := by simpa using e1
            go_wp2_with fail
            go_quiet (fail)
            go_wp2_with fail
            go_ret
            exact ⟨rfl, below_drewN (below_drewN HW.out _) _⟩
          · have t1 := bytes_ne e2
            go_wp2_with fail
            go_quiet (fail)
            go_wp2_with fail
            go_ret
            exact ⟨rfl, below_drewN (below_drewN HW.out _) _⟩
          · have t1 : (a1 == a2) = false := by simpa using e3
            go_wp2_with fail
            go_quiet (fail)
            go_wp2_with fail
            go_ret
            exact ⟨rfl, below_drewN (below_drewN HW.out _) _⟩
      · obtain rfl : k = xs.length := by omega
        obtain rfl : r = true := by rw [← Hr.out]; exact same_yes Hlen.out Hall.out
        clear hE1 hE2
        go_wp2_with fail
        go_ret
        exact ⟨rfl, below_drewN HW.out _⟩
  · have hi : ¬ (xs.length : Int) = (ys.length : Int) := by omega
    have hi2 : ((xs.length : Int) != (ys.length : Int)) = true := by simp; omega
    obtain rfl : r = false := by rw [← Hr.out, decide_eq_false_iff_not]; rintro rfl; exact hlen rfl
    go_wp2_with fail
    go_ret
    exact ⟨rfl, by (repeat (first | with_reducible exact Below.refl _ _ | with_reducible assumption | with_reducible refine Below.alloc0 ?_ _ | with_reducible refine Below.ext0 ?_ _ | with_reducible refine Below.drew ?_ | with_reducible refine below_drewN ?_ _ | (with_reducible refine Below.setCell (hp := ?hp) ?_ _; case hp => (first | (simp; done) | (simp; omega)))))⟩
end Go.Proofs.Ytggmihnhdojepaa
