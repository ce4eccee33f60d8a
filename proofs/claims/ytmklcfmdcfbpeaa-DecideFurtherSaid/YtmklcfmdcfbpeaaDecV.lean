/- Layer 13 (decide): what a further rule behind all others changes in a decision. No program here. -/
import Derived.Test.YtmklcfmdcfbpeaaDecU
namespace Go.Proofs.Ytmklcfmdcfbpeaa
open Go.RowKit
set_option linter.unusedVariables false
set_option linter.unusedSimpArgs false

/-- Whether a rule of the kind q holds. -/
def foundK (f : Fc) (rs : List Rl) (q : Int) : Bool := someL (heldK f rs q)
theorem found_more (f : Fc) (rs : List Rl) (r : Rl) (q : Int) : foundK f (rs ++ [r]) q = (foundK f rs q || (decide (r.1 = q) && holdsB r f)) := by
  unfold foundK
  rw [held_more]
  by_cases h : r.1 = q ∧ holdsB r f = true
  · rw [if_pos h, h.2, decide_eq_true h.1]
    cases heldK f rs q <;> simp [someL]
  · rw [if_neg h, List.append_nil]
    by_cases e : r.1 = q
    · have : holdsB r f = false := by
        cases hh : holdsB r f
        · rfl
        · exact absurd ⟨e, hh⟩ h
      rw [this, Bool.and_false, Bool.or_false]
    · rw [decide_eq_false e, Bool.false_and, Bool.or_false]
theorem found_take {f : Fc} {rs : List Rl} {k : Nat} {r : Rl} (hr : rs[k]? = some r) (q : Int) : foundK f (rs.take (k + 1)) q = (foundK f (rs.take k) q || (decide (r.1 = q) && holdsB r f)) := by
  rw [List.take_add_one, hr]
  exact found_more f _ r q
theorem found_fst (f : Fc) (rs : List Rl) (q : Int) : foundK f rs q = decide (0 ≤ fst f rs q) := (fst_some f rs q).symm
theorem hd_more {l : List Rl} {r : Rl} : hd (l ++ [r]) = if someL l = true then hd l else r := by
  cases l <;> simp [hd, someL]
theorem decG_found (f : Fc) (rs : List Rl) (y : Int) : decG (heldK f rs) y = decV (foundK f rs 1 && foundK f rs 3 && !foundK f rs 2) (foundK f rs 6) (foundK f rs 7) (limL (heldK f rs 1)) (hd (heldK f rs 3)).2.2.2.1 (hd (heldK f rs 3)).2.2.2.2.1.1 (hd (heldK f rs 3)).2.2.2.2.1.2 (hd (heldK f rs 3)).2.2.2.2.2.1 (hd (heldK f rs 3)).2.2.2.2.2.2
    (hd (heldK f rs 4)).2.2.2.2.1.1 (hd (heldK f rs 4)).2.2.2.2.1.2 (hd (heldK f rs 4)).2.2.2.2.2.1 (hd (heldK f rs 4)).2.2.2.2.2.2 (hd (heldK f rs 5)).2.2.2.2.1.1 (hd (heldK f rs 5)).2.2.2.2.1.2 y := by
  unfold decG foundK someL
  rw [Bool.not_not]
theorem hdK_more (f : Fc) (rs : List Rl) (r : Rl) (q : Int) : hd (heldK f (rs ++ [r]) q) = if (r.1 = q ∧ holdsB r f = true) ∧ foundK f rs q = false then r else hd (heldK f rs q) := by
  rw [held_more]
  by_cases h : r.1 = q ∧ holdsB r f = true
  · rw [if_pos h, hd_more]
    unfold foundK
    cases hh : someL (heldK f rs q) <;> simp [h]
  · rw [if_neg h, if_neg (fun h2 => h h2.1), List.append_nil]
theorem lim_more (f : Fc) (rs : List Rl) (r : Rl) : limL (heldK f (rs ++ [r]) 1) = if r.1 = 1 ∧ holdsB r f = true then limS (limL (heldK f rs 1)) r else limL (heldK f rs 1) := by
  rw [held_more]
  by_cases h : r.1 = 1 ∧ holdsB r f = true
  · rw [if_pos h, if_pos h]
    unfold limL
    rw [List.foldl_append]
    rfl
  · rw [if_neg h, if_neg h, List.append_nil]
theorem by_more (f : Fc) (rs : List Rl) (r : Rl) : byG f (rs ++ [r]) =
    if foundK f rs 2 = true then byG f rs else if r.1 = 2 ∧ holdsB r f = true then (rs.length : Int) else if foundK f rs 1 = true then byG f rs else if r.1 = 1 ∧ holdsB r f = true then (rs.length : Int) else byG f rs := by
  unfold byG
  rw [fst_more, fst_more, found_fst, found_fst]
  rcases fst_cases f rs 2 with ⟨h1, _⟩ | ⟨i, _, h1, _⟩
  · rw [h1]
    rcases fst_cases f rs 1 with ⟨h2, _⟩ | ⟨j, _, h2, _⟩
    · rw [h2]
      simp only [show ¬ ((0 : Int) ≤ -1) by omega, decide_false, if_false, Bool.false_eq_true]
      by_cases e : r.1 = 2 ∧ holdsB r f = true
      · simp [e]
      · simp only [e, if_false]; simp
    · rw [h2]
      simp only [show ¬ ((0 : Int) ≤ -1) by omega, decide_false, if_false, Bool.false_eq_true]
      by_cases e : r.1 = 2 ∧ holdsB r f = true
      · simp [e]
      · simp only [e, if_false]; simp
  · rw [h1]
    simp

/-- The decision of before, and what it is with the further rule. -/
theorem further_lit (f : Fc) (rs : List Rl) (kd : Int) (nm : ByteArray) (zs : List Zn) (num rn rd sn sd : Int) : ∃ (lim price fn fd tn td cn cd un ud vn vd y : Int),
    dcs (runJ f rs rs.length) = decV (foundK f rs 1 && foundK f rs 3 && !foundK f rs 2) (foundK f rs 6) (foundK f rs 7) lim price fn fd tn td cn cd un ud vn vd y ∧
    ((zs.any fun z => inZ z f) = false → dcs (runJ f (rs ++ [(kd, nm, zs, num, (rn, rd), (sn, sd))]) (rs ++ [(kd, nm, zs, num, (rn, rd), (sn, sd))]).length) = decV (foundK f rs 1 && foundK f rs 3 && !foundK f rs 2) (foundK f rs 6) (foundK f rs 7) lim price fn fd tn td cn cd un ud vn vd y) ∧
    ((zs.any fun z => inZ z f) = true → dcs (runJ f (rs ++ [(kd, nm, zs, num, (rn, rd), (sn, sd))]) (rs ++ [(kd, nm, zs, num, (rn, rd), (sn, sd))]).length) =
      decV ((foundK f rs 1 || decide (kd = 1)) && (foundK f rs 3 || decide (kd = 3)) && !(foundK f rs 2 || decide (kd = 2))) (foundK f rs 6 || decide (kd = 6)) (foundK f rs 7 || decide (kd = 7))
        (if kd = 1 then if 0 < num ∧ (lim = 0 ∨ num < lim) then num else lim else lim)
        (if kd = 3 ∧ foundK f rs 3 = false then num else price) (if kd = 3 ∧ foundK f rs 3 = false then rn else fn) (if kd = 3 ∧ foundK f rs 3 = false then rd else fd) (if kd = 3 ∧ foundK f rs 3 = false then sn else tn) (if kd = 3 ∧ foundK f rs 3 = false then sd else td)
        (if kd = 4 ∧ foundK f rs 4 = false then rn else cn) (if kd = 4 ∧ foundK f rs 4 = false then rd else cd) (if kd = 4 ∧ foundK f rs 4 = false then sn else un) (if kd = 4 ∧ foundK f rs 4 = false then sd else ud)
        (if kd = 5 ∧ foundK f rs 5 = false then rn else vn) (if kd = 5 ∧ foundK f rs 5 = false then rd else vd)
        (if foundK f rs 2 = true then y else if kd = 2 then (rs.length : Int) else if foundK f rs 1 = true then y else if kd = 1 then (rs.length : Int) else y)) := by
  refine ⟨_, _, _, _, _, _, _, _, _, _, _, _, _, (dcs_gist f rs).trans (decG_found f rs _), fun h => ?_, fun h => ?_⟩
  · rw [dcs_gist, decG_found]
    have hh : holdsB (kd, nm, zs, num, (rn, rd), (sn, sd)) f = false := h
    simp only [found_more, hdK_more, lim_more, by_more, hh, Bool.and_false, Bool.or_false, Bool.false_eq_true, and_false, false_and, if_false]
    simp
  · rw [dcs_gist, decG_found]
    have hh : holdsB (kd, nm, zs, num, (rn, rd), (sn, sd)) f = true := h
    simp only [found_more, hdK_more, lim_more, by_more, hh, Bool.and_true, and_true, limS]
    congr 1
    all_goals split <;> rfl
end Go.Proofs.Ytmklcfmdcfbpeaa
