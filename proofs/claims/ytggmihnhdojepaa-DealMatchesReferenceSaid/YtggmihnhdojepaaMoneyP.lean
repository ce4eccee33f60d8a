/- Layers 1 and 17 (money, price), in plain numbers: rounding, shares, bills; no program is named here. -/
namespace Go.Proofs.Ytggmihnhdojepaa
set_option linter.unusedVariables false
set_option linter.unusedSimpArgs false

def validB (n : Int) : Bool := decide (-1000000000 ≤ n) && decide (n ≤ 1000000000)
def ratioB (num den : Int) : Bool := decide (0 ≤ num) && decide (num ≤ 1000000) && decide (1 ≤ den) && decide (den ≤ 1000000)
/-- x/d, rounded, the half to the even. -/
def roundP (x d : Int) : Int := if d < 2 * (x % d) ∨ (2 * (x % d) = d ∧ x / d % 2 ≠ 0) then x / d + 1 else x / d
def shareE (n num den : Int) : Int := if validB n && ratioB num den then (if validB (roundP (n * num) den) then 0 else 2) else 1
def shareV (n num den : Int) : Int := if validB n && ratioB num den && validB (roundP (n * num) den) then roundP (n * num) den else 0

theorem validB_out {n : Int} (h : validB n = true) : -1000000000 ≤ n ∧ n ≤ 1000000000 := by simpa [validB] using h
theorem validB_no {n : Int} (h : validB n = false) : n < -1000000000 ∨ 1000000000 < n := by
  simp only [validB, Bool.and_eq_false_iff, decide_eq_false_iff_not] at h; omega
theorem validB_in {n : Int} (h : -1000000000 ≤ n ∧ n ≤ 1000000000) : validB n = true := by simpa [validB] using h
theorem ratioB_out {a b : Int} (h : ratioB a b = true) : 0 ≤ a ∧ a ≤ 1000000 ∧ 1 ≤ b ∧ b ≤ 1000000 := by
  simp only [ratioB, Bool.and_eq_true, decide_eq_true_eq] at h; omega
theorem ratioB_no {a b : Int} (h : ratioB a b = false) : a < 0 ∨ 1000000 < a ∨ b < 1 ∨ 1000000 < b := by
  simp only [ratioB, Bool.and_eq_false_iff, decide_eq_false_iff_not] at h; omega
theorem ratioB_in {a b : Int} (h : 0 ≤ a ∧ a ≤ 1000000 ∧ 1 ≤ b ∧ b ≤ 1000000) : ratioB a b = true := by
  simp only [ratioB, Bool.and_eq_true, decide_eq_true_eq]; omega

theorem round_near (x d : Int) (hd : 1 ≤ d) : 2 * x - d ≤ 2 * (d * roundP x d) ∧ 2 * (d * roundP x d) ≤ 2 * x + d := by
  have h1 := Int.mul_ediv_add_emod x d
  have h2 := Int.emod_nonneg x (show d ≠ 0 by omega)
  have h3 := Int.emod_lt_of_pos x (show 0 < d by omega)
  unfold roundP
  split
  · rw [Int.mul_add]; omega
  · omega

theorem round_floor (x d : Int) : x / d ≤ roundP x d ∧ roundP x d ≤ x / d + 1 := by
  unfold roundP; split <;> omega

theorem round_mono {x y d : Int} (hd : 1 ≤ d) (h : x ≤ y) : roundP x d ≤ roundP y d := by
  have h1 := Int.mul_ediv_add_emod x d
  have h2 := Int.mul_ediv_add_emod y d
  have hq : x / d ≤ y / d := Int.ediv_le_ediv (by omega) h
  by_cases he : x / d = y / d
  · have hr : x % d ≤ y % d := by rw [he] at h1; omega
    unfold roundP
    rw [he]
    split <;> split <;> omega
  · have := (round_floor x d).2
    have := (round_floor y d).1
    omega

theorem round_zero (d : Int) (hd : 1 ≤ d) : roundP 0 d = 0 := by
  unfold roundP; simp; omega
theorem round_nonneg {x d : Int} (hd : 1 ≤ d) (h : 0 ≤ x) : 0 ≤ roundP x d := by
  have := round_mono (d := d) hd h
  rwa [round_zero d hd] at this
theorem round_whole (n d : Int) (hd : 1 ≤ d) : roundP (n * d) d = n := by
  unfold roundP
  rw [Int.mul_emod_left, Int.mul_ediv_cancel _ (by omega)]
  split <;> omega
theorem round_le {n num den : Int} (hd : 1 ≤ den) (hn : 0 ≤ n) (h : num ≤ den) : roundP (n * num) den ≤ n := by
  have := round_mono (d := den) hd (Int.mul_le_mul_of_nonneg_left h hn)
  rwa [round_whole n den hd] at this
theorem round_ge {n num den : Int} (hd : 1 ≤ den) (hn : 0 ≤ n) (h : den ≤ num) : n ≤ roundP (n * num) den := by
  have := round_mono (d := den) hd (Int.mul_le_mul_of_nonneg_left h hn)
  rwa [round_whole n den hd] at this

theorem le_of_mul_le' {a b d : Int} (hd : 1 ≤ d) (h : d * a ≤ d * b) : a ≤ b := Int.le_of_mul_le_mul_left h (by omega)

/-- n times one share, and the share of n times as much. -/
theorem round_several (x n d : Int) (hd : 1 ≤ d) (hn : 0 ≤ n) : 2 * (roundP (n * x) d - n * roundP x d) ≤ n + 1 ∧ -(n + 1) ≤ 2 * (roundP (n * x) d - n * roundP x d) := by
  obtain ⟨a1, a2⟩ := round_near (n * x) d hd
  obtain ⟨b1, b2⟩ := round_near x d hd
  generalize roundP (n * x) d = A at *
  generalize roundP x d = B at *
  have c1 := Int.mul_le_mul_of_nonneg_left b1 hn
  have c2 := Int.mul_le_mul_of_nonneg_left b2 hn
  have e1 : n * (2 * x - d) = 2 * (n * x) - n * d := by rw [Int.mul_sub, Int.mul_left_comm]
  have e2 : n * (2 * x + d) = 2 * (n * x) + n * d := by rw [Int.mul_add, Int.mul_left_comm]
  have e3 : n * (2 * (d * B)) = 2 * (d * (n * B)) := by rw [Int.mul_left_comm n 2, Int.mul_left_comm n d]
  rw [e1, e3] at c1
  rw [e2, e3] at c2
  have f1 : d * (2 * (A - n * B)) = 2 * (d * A) - 2 * (d * (n * B)) := by rw [Int.mul_left_comm, Int.mul_sub, Int.mul_sub]
  have f2 : d * (n + 1) = n * d + d := by rw [Int.mul_add, Int.mul_one, Int.mul_comm]
  have f3 : d * (-(n + 1)) = -(n * d) - d := by rw [Int.mul_neg, f2]; omega
  exact ⟨le_of_mul_le' hd (by rw [f1, f2]; omega), le_of_mul_le' hd (by rw [f1, f3]; omega)⟩

/-- A ratio's share and that of what is missing to 1. -/
theorem round_rest (n num den : Int) (hd : 1 ≤ den) : -1 ≤ roundP (n * num) den + roundP (n * (den - num)) den - n ∧ roundP (n * num) den + roundP (n * (den - num)) den - n ≤ 1 := by
  obtain ⟨a1, a2⟩ := round_near (n * num) den hd
  obtain ⟨b1, b2⟩ := round_near (n * (den - num)) den hd
  generalize roundP (n * num) den = A at *
  generalize roundP (n * (den - num)) den = B at *
  rw [Int.mul_sub] at b1 b2
  have e : n * den = den * n := Int.mul_comm ..
  have f : den * (A + B - n) = den * A + den * B - den * n := by rw [Int.mul_sub, Int.mul_add]
  exact ⟨le_of_mul_le' hd (by rw [f]; omega), le_of_mul_le' hd (by rw [f]; omega)⟩

theorem round_neg (x d : Int) (hd : 1 ≤ d) : roundP (-x) d = -roundP x d := by
  have h1 := Int.mul_ediv_add_emod x d
  have h2 := Int.emod_nonneg x (show d ≠ 0 by omega)
  have h3 := Int.emod_lt_of_pos x (show 0 < d by omega)
  unfold roundP
  generalize x / d = q at *
  generalize x % d = r at *
  by_cases hr : r = 0
  · subst hr
    obtain ⟨e1, e2⟩ : (-x) / d = -q ∧ (-x) % d = 0 := (Int.ediv_emod_unique (by omega)).2 ⟨by rw [Int.mul_neg]; omega, by omega, by omega⟩
    rw [e1, e2]
    split <;> split <;> omega
  · obtain ⟨e1, e2⟩ : (-x) / d = -q - 1 ∧ (-x) % d = d - r := (Int.ediv_emod_unique (by omega)).2 ⟨by rw [Int.mul_sub, Int.mul_neg]; omega, by omega, by omega⟩
    rw [e1, e2]
    split <;> split <;> omega

theorem mul_bd {a b A B : Int} (h1 : -A ≤ a) (h2 : a ≤ A) (h3 : 0 ≤ b) (h4 : b ≤ B) : -(A * B) ≤ a * b ∧ a * b ≤ A * B := by
  have hA : 0 ≤ A := by omega
  have e1 : a * b ≤ A * b := Int.mul_le_mul_of_nonneg_right h2 h3
  have e2 : A * b ≤ A * B := Int.mul_le_mul_of_nonneg_left h4 hA
  have e3 : -A * b ≤ a * b := Int.mul_le_mul_of_nonneg_right h1 h3
  rw [Int.neg_mul] at e3
  omega

/-- Go's own division, and the floor's. -/
theorem tdiv_parts (x d X : Int) (hd : 1 ≤ d) (h1 : -X ≤ x) (h2 : x ≤ X) : -d < x.tmod d ∧ x.tmod d < d ∧ (0 ≤ x.tmod d → x / d = x.tdiv d ∧ x % d = x.tmod d) ∧ (x.tmod d < 0 → x / d = x.tdiv d - 1 ∧ x % d = x.tmod d + d) ∧ -X ≤ x.tdiv d ∧ x.tdiv d ≤ X := by
  have e := Int.mul_tdiv_add_tmod x d
  have b1 : x.tmod d < d := Int.tmod_lt_of_pos x (by omega)
  have b2 : -d < x.tmod d := by
    have := Int.tmod_lt_of_pos (-x) (show 0 < d by omega)
    rw [Int.neg_tmod] at this
    omega
  have b3 : -X ≤ x.tdiv d ∧ x.tdiv d ≤ X := by
    have := Int.natAbs_tdiv_le_natAbs x d
    omega
  refine ⟨b2, b1, fun h => ?_, fun h => ?_, b3.1, b3.2⟩
  · exact (Int.ediv_emod_unique (by omega)).2 ⟨by omega, h, b1⟩
  · exact (Int.ediv_emod_unique (by omega)).2 ⟨by rw [Int.mul_sub]; omega, by omega, by omega⟩

theorem round_at {x d q r : Int} (h1 : x / d = q) (h2 : x % d = r) : roundP x d = if d < 2 * r ∨ (2 * r = d ∧ q % 2 ≠ 0) then q + 1 else q := by
  unfold roundP; rw [h1, h2]
theorem odd_t (T : Int) : (T.tmod 2 != 0) = decide (T % 2 ≠ 0) := by
  rw [Bool.eq_iff_iff]; simp only [bne_iff_ne, ne_eq, decide_eq_true_eq]
  have := tdiv_parts T 2 (Int.natAbs T) (by omega) (by omega) (by omega)
  omega

theorem share_is {n num den v : Int} (hv : validB n = true) (hr : ratioB num den = true) (h : roundP (n * num) den = v) : shareV n num den = (if validB v then v else 0) ∧ shareE n num den = (if validB v then 0 else 2) := by
  subst h
  unfold shareV shareE
  rw [hv, hr]
  simp
theorem share_bad {n num den : Int} (h : (validB n && ratioB num den) = false) : shareV n num den = 0 ∧ shareE n num den = 1 := by
  unfold shareV shareE
  rw [h]
  simp

/-- The reference's way to round. -/
theorem round_ref (x d q r : Int) (hd : 1 ≤ d) (hx : 0 ≤ x) (h1 : x / d = q) (h2 : x % d = r) (c : Prop) [Decidable c] (hc : c ↔ (d < 2 * r ∨ (2 * r = d ∧ q % 2 = 1))) :
    roundP x d = (if c then q + 1 else q) ∧ roundP (-x) d = -(if c then q + 1 else q) := by
  have h0 : 0 ≤ q := by rw [← h1]; exact Int.ediv_nonneg hx (by omega)
  have e : roundP x d = (if c then q + 1 else q) := by
    rw [round_at h1 h2]
    by_cases h : c
    · rw [if_pos h, if_pos (by have := hc.1 h; omega)]
    · rw [if_neg h, if_neg (by intro h'; exact h (hc.2 (by omega)))]
  exact ⟨e, by rw [round_neg x d hd, e]⟩
theorem validB_neg (n : Int) : validB (-n) = validB n := by
  unfold validB; rw [Bool.eq_iff_iff]; simp only [Bool.and_eq_true, decide_eq_true_eq]; omega

/-! ### Bills -/

/-- A line: kind, amount. -/
abbrev Ln := Int × Int
def sumOf (ls : List Ln) : Int := (ls.map (·.2)).foldr (· + ·) 0
def faceOf (ls : List Ln) : Int := sumOf (ls.filter fun l => l.1 == 1)
def lineB (l : Ln) : Bool := decide (1 ≤ l.1) && decide (l.1 ≤ 3) && decide (0 ≤ l.2) && decide (l.2 ≤ 1000000000)
def rightB (ls : List Ln) (total : Int) : Bool := decide (ls.length ≤ 36) && ls.all lineB && decide (sumOf ls = total) && decide (sumOf ls ≤ 1000000000)

theorem sumOf_cons (l : Ln) (ls : List Ln) : sumOf (l :: ls) = l.2 + sumOf ls := rfl
theorem sumOf_bd : ∀ (ls : List Ln), ls.all lineB = true → 0 ≤ sumOf ls ∧ sumOf ls ≤ 1000000000 * ls.length
  | [], _ => by simp [sumOf]
  | l :: ls, h => by
    simp only [List.all_cons, Bool.and_eq_true] at h
    have := sumOf_bd ls h.2
    have hl := h.1
    simp only [lineB, Bool.and_eq_true, decide_eq_true_eq] at hl
    rw [sumOf_cons, List.length_cons]
    omega
theorem sumOf_append (a b : List Ln) : sumOf (a ++ b) = sumOf a + sumOf b := by
  induction a with
  | nil => simp [sumOf]
  | cons l a ih => rw [List.cons_append, sumOf_cons, sumOf_cons, ih]; omega
theorem faceOf_bd (ls : List Ln) (h : ls.all lineB = true) : 0 ≤ faceOf ls ∧ faceOf ls ≤ sumOf ls := by
  unfold faceOf
  induction ls with
  | nil => simp [sumOf]
  | cons l ls ih =>
    simp only [List.all_cons, Bool.and_eq_true] at h
    have := ih h.2
    have hl := h.1
    simp only [lineB, Bool.and_eq_true, decide_eq_true_eq] at hl
    rw [List.filter_cons]
    split
    · rw [sumOf_cons, sumOf_cons]; omega
    · rw [sumOf_cons]; omega

/-- A quote: the error, and the three lines' amounts. -/
def quoteE (al : Bool) (price fn fd tn td n : Int) : Int :=
  if decide (1 ≤ n) && decide (n ≤ 12) && decide (0 ≤ price) && decide (price ≤ 1000000000) && ratioB fn fd && ratioB tn td then
    if al then
      if validB (n * price) && validB (roundP (n * price * fn) fd) && validB (n * price + roundP (n * price * fn) fd) && validB (roundP ((n * price + roundP (n * price * fn) fd) * tn) td) &&
        validB (n * price + roundP (n * price * fn) fd + roundP ((n * price + roundP (n * price * fn) fd) * tn) td) then 0 else 2
    else 15
  else 1
def qFace (price n : Int) : Int := n * price
def qFee (price fn fd n : Int) : Int := roundP (n * price * fn) fd
def qTax (price fn fd tn td n : Int) : Int := roundP ((n * price + roundP (n * price * fn) fd) * tn) td
def quoteL (al : Bool) (price fn fd tn td n : Int) : List Ln :=
  if quoteE al price fn fd tn td n = 0 then [(1, qFace price n), (2, qFee price fn fd n), (3, qTax price fn fd tn td n)] else []
end Go.Proofs.Ytggmihnhdojepaa
