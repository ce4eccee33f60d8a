/- Layer 34 (deal): Refund. -/
import Derived.Test.YtggmihnhdojepaaDealK
namespace Go.Proofs.Ytggmihnhdojepaa
open Go.RowKit
set_option linter.unusedVariables false
set_option linter.unusedSimpArgs false
attribute [local go_sem] ext_cell ext_frozen lt_ext ext_drew

theorem parts_sum : ∀ (ls : List Ln), ls.all lineB = true → partOf 1 ls + partOf 2 ls + partOf 3 ls = sumOf ls
  | [], _ => rfl
  | (k, a) :: ls, h => by
    simp only [List.all_cons, Bool.and_eq_true] at h
    have ih := parts_sum ls h.2
    have hl := h.1
    simp only [lineB, Bool.and_eq_true, decide_eq_true_eq] at hl
    have hp : ∀ q : Int, q ≠ 0 → partOf q ((k, a) :: ls) = (if k = q then a else 0) + partOf q ls := fun q hq => by
      unfold partOf
      rw [List.filter_cons]
      by_cases e : k = q
      · have : pickB q (k, a) = true := by simp [pickB, e]
        rw [if_pos this, if_pos e, sumOf_cons]
      · have : ¬ pickB q (k, a) = true := by simp [pickB, e, hq]
        rw [if_neg this, if_neg e]; omega
    rw [hp 1 (by omega), hp 2 (by omega), hp 3 (by omega), sumOf_cons]
    have hk : k = 1 ∨ k = 2 ∨ k = 3 := by omega
    show _ = a + sumOf ls
    rcases hk with rfl | rfl | rfl <;> simp <;> omega

def refundE (ls : List Ln) (total amount : Int) (ms : List Mn) : Int := if rightB ls total = true ∧ 0 ≤ amount ∧ totB ms = true then (if amount ≤ total ∧ sumM ms = amount then 0 else 19) else 1
def backL (n a b c : Int) : List Pst := partsL (-(splitP n a b c).1) (-(splitP n a b c).2.1) (-(splitP n a b c).2.2)
def refundL (ls : List Ln) (total amount : Int) (ms : List Mn) : List Pst := if refundE ls total amount ms = 0 then payL ms 1 ++ (if total = 0 then [] else backL amount (partOf 1 ls) (partOf 2 ls) (partOf 3 ls)) else []
theorem split_le {n a b c : Int} (hn : goodW n) (ha : goodW a) (hb : goodW b) (hc : goodW c) (h0 : 0 < a + b + c) : (0 ≤ (splitP n a b c).1 ∧ (splitP n a b c).1 ≤ 1000000001) ∧ (0 ≤ (splitP n a b c).2.1 ∧ (splitP n a b c).2.1 ≤ 1000000001) ∧ (0 ≤ (splitP n a b c).2.2 ∧ (splitP n a b c).2.2 ≤ 1000000001) := by
  obtain ⟨n1, n2⟩ := hn
  obtain ⟨a1, a2⟩ := ha
  obtain ⟨b1, b2⟩ := hb
  obtain ⟨c1, c2⟩ := hc
  have q1 := quo_bd (al := a + b + c) (x := a) (n := n) rfl n1 a1 (by omega) h0
  have q2 := quo_bd (al := a + b + c) (x := b) (n := n) rfl n1 b1 (by omega) h0
  have q3 := quo_bd (al := a + b + c) (x := c) (n := n) rfl n1 c1 (by omega) h0
  have u1 := incN_bd (ordP n a b c) (leftP n a b c) 0
  have u2 := incN_bd (ordP n a b c) (leftP n a b c) 1
  have u3 := incN_bd (ordP n a b c) (leftP n a b c) 2
  unfold splitP
  simp only
  omega

set_option maxRecDepth 100000 in
set_option maxHeartbeats 2000000 in
theorem split_none (n : Int) (lb : Nat) (tl : TypeId) (cp : Nat) (w : World) (h : Bk w lb #[.int .i64 0, .int .i64 0, .int .i64 0] tl) (hn : goodW n) :
    Calls Try.prog 43 #[.int .i64 n, .slice (some ⟨lb, 0, none⟩) 3 cp] w fun e w' => e = .returned (.tuple #[.slice none 0 0, .int .i64 1]) ∧ Below w.heap.size w w' := by
  have HH := Lib.hid h
  obtain ⟨n1, n2⟩ := hn
  have g0 : goodW 0 := ⟨by omega, by omega⟩
  have hcon : Hid (∀ W', Below w.heap.size w W' → (Calls Try.prog 55 #[.slice (some ⟨lb, 0, none⟩) 3 cp, .func (.func 54) #[] #[]] W' fun e w' => e = .returned (.bool false) ∧ W' = w') ∧
      (Calls Try.prog 56 #[.slice (some ⟨lb, 0, none⟩) 3 cp] W' fun e w' => e = .returned (.int .i64 0) ∧ W' = w')) := Lib.hid fun W' hW => by
    have he := three_elems (h.below hW) g0 g0 g0
    refine ⟨containsW_any W' _ 3 _ cp [0, 0, 0] he rfl (by omega) (fun z hz => ?_), sum_is 0 W' _ 3 _ cp [0, 0, 0] he rfl (by omega) (Lib.hid rfl) (Lib.hid rfl)⟩
    simp only [List.mem_cons, List.not_mem_nil, or_false] at hz
    rcases hz with rfl | rfl | rfl <;> exact g0
  have Hval : Hid (validB n = true) := Lib.hid (validB_in (by omega))
  clear h
  go_enter Try.func43, Try.ntmps43
  go_wp2_with (first
    | (go_at_call 55; refine Calls.mono (hcon.out _ ?bel).1 ?_; (case bel => (repeat (first | with_reducible exact Below.refl _ _ | with_reducible assumption | with_reducible refine Below.alloc0 ?_ _ | with_reducible refine Below.ext0 ?_ _ | with_reducible refine Below.drew ?_ | with_reducible refine below_drewN ?_ _ | (with_reducible refine Below.setCell (hp := ?hp) ?_ _; case hp => (first | (simp; done) | (simp; omega)))))); rintro e w' ⟨rfl, rfl⟩)
    | (go_at_call 56; refine Calls.mono (hcon.out _ ?bel).2 ?_; (case bel => (repeat (first | with_reducible exact Below.refl _ _ | with_reducible assumption | with_reducible refine Below.alloc0 ?_ _ | with_reducible refine Below.ext0 ?_ _ | with_reducible refine Below.drew ?_ | with_reducible refine below_drewN ?_ _ | (with_reducible refine Below.setCell (hp := ?hp) ?_ _; case hp => (first | (simp; done) | (simp; omega)))))); rintro e w' ⟨rfl, rfl⟩)
    | (go_at_call 47; refine (valid_is _ _ _ Hval).mono ?_; rintro e w' ⟨rfl, rfl⟩))
  go_ret2
  exact ⟨rfl, by (repeat (first | with_reducible exact Below.refl _ _ | with_reducible assumption | with_reducible refine Below.alloc0 ?_ _ | with_reducible refine Below.ext0 ?_ _ | with_reducible refine Below.drew ?_ | with_reducible refine below_drewN ?_ _ | (with_reducible refine Below.setCell (hp := ?hp) ?_ _; case hp => (first | (simp; done) | (simp; omega)))))⟩
end Go.Proofs.Ytggmihnhdojepaa
