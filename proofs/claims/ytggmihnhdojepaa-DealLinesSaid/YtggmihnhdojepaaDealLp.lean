/- A bill whose lines are halved: the same bookings, in plain numbers. -/
import Derived.Test.YtggmihnhdojepaaDealZ
namespace Go.Proofs.Ytggmihnhdojepaa
open Go.RowKit Go.ChangeAt
set_option linter.unusedVariables false
set_option linter.unusedSimpArgs false
attribute [local go_sem] ext_cell ext_frozen lt_ext ext_drew
def halfL (d : Int) (l : Ln) : List Ln := [(l.1, l.2.tdiv d), (l.1, l.2 - l.2.tdiv d)]
def splitL (d : Int) : List Ln → List Ln
  | [] => []
  | l :: ls => splitL d ls ++ halfL d l
theorem split_len (d : Int) : ∀ ls : List Ln, (splitL d ls).length = 2 * ls.length
  | [] => rfl
  | l :: ls => by
    have := split_len d ls
    show (splitL d ls ++ halfL d l).length = 2 * (ls.length + 1)
    rw [List.length_append, this]
    show 2 * ls.length + 2 = _
    omega
theorem part_half (kd d : Int) (l : Ln) : partOf kd (halfL d l) = partOf kd [l] := by
  unfold partOf halfL
  by_cases h : pickB kd l = true
  · have h1 : pickB kd (l.1, l.2.tdiv d) = true := h
    have h2 : pickB kd (l.1, l.2 - l.2.tdiv d) = true := h
    simp [List.filter_cons, h, h1, h2, sumOf]
    omega
  · have h1 : ¬ pickB kd (l.1, l.2.tdiv d) = true := h
    have h2 : ¬ pickB kd (l.1, l.2 - l.2.tdiv d) = true := h
    simp [List.filter_cons, h, h1, h2, sumOf]
theorem part_append (kd : Int) (a b : List Ln) : partOf kd (a ++ b) = partOf kd a + partOf kd b := by
  unfold partOf
  rw [List.filter_append, sumOf_append]
theorem part_split (kd d : Int) : ∀ ls : List Ln, partOf kd (splitL d ls) = partOf kd ls
  | [] => rfl
  | l :: ls => by
    show partOf kd (splitL d ls ++ halfL d l) = partOf kd ([l] ++ ls)
    rw [part_append, part_append, part_half, part_split kd d ls]
    omega
theorem sum_split (d : Int) (ls : List Ln) : sumOf (splitL d ls) = sumOf ls := by
  rw [← sum_part, ← sum_part]
  exact part_split 0 d ls
theorem le_sum {ls : List Ln} (h : ∀ l ∈ ls, 0 ≤ l.2) : 0 ≤ sumOf ls ∧ ∀ l ∈ ls, l.2 ≤ sumOf ls := by
  induction ls with
  | nil => exact ⟨by show (0 : Int) ≤ 0; omega, fun l hl => by cases hl⟩
  | cons a ls ih =>
    obtain ⟨i1, i2⟩ := ih (fun l hl => h l (List.mem_cons_of_mem _ hl))
    have ha := h a (by simp)
    rw [sumOf_cons]
    refine ⟨by omega, fun l hl => ?_⟩
    rcases List.mem_cons.1 hl with rfl | hl
    · omega
    · have := i2 l hl; omega
theorem split_mem {d : Int} {x : Ln} : ∀ {ls : List Ln}, x ∈ splitL d ls ↔ ∃ l ∈ ls, x ∈ halfL d l
  | [] => by simp [splitL]
  | l :: ls => by
    show x ∈ splitL d ls ++ halfL d l ↔ _
    rw [List.mem_append, split_mem]
    constructor
    · rintro (⟨l', h1, h2⟩ | h)
      · exact ⟨l', List.mem_cons_of_mem _ h1, h2⟩
      · exact ⟨l, by simp, h⟩
    · rintro ⟨l', h1, h2⟩
      rcases List.mem_cons.1 h1 with rfl | h1
      · exact .inr h2
      · exact .inl ⟨l', h1, h2⟩
theorem right_split {d : Int} (hd : 1 ≤ d) {ls : List Ln} (hl : ls.length ≤ 18) (total : Int) : rightB (splitL d ls) total = rightB ls total := by
  unfold rightB
  rw [sum_split, split_len, decide_eq_true (show 2 * ls.length ≤ 36 by omega), decide_eq_true (show ls.length ≤ 36 by omega)]
  by_cases hs : sumOf ls ≤ 1000000000
  · congr 3
    rw [Bool.eq_iff_iff, List.all_eq_true, List.all_eq_true]
    constructor
    · intro h
      have h0 : ∀ l ∈ ls, (1 ≤ l.1 ∧ l.1 ≤ 3) ∧ 0 ≤ l.2 := fun l hm => by
        have a1 := h (l.1, l.2.tdiv d) (split_mem.2 ⟨l, hm, by simp [halfL]⟩)
        have a2 := h (l.1, l.2 - l.2.tdiv d) (split_mem.2 ⟨l, hm, by simp [halfL]⟩)
        simp only [lineB, Bool.and_eq_true, decide_eq_true_eq] at a1 a2
        omega
      have h2 := (le_sum (fun l hm => (h0 l hm).2)).2
      intro l hm
      have a1 := h0 l hm
      have a2 := h2 l hm
      simp only [lineB, Bool.and_eq_true, decide_eq_true_eq]
      omega
    · intro h x hx
      obtain ⟨l, hm, hxl⟩ := split_mem.1 hx
      have a1 := h l hm
      simp only [lineB, Bool.and_eq_true, decide_eq_true_eq] at a1
      have q0 : 0 ≤ l.2.tdiv d := Int.tdiv_nonneg (by omega) (by omega)
      have q1 : l.2.tdiv d ≤ l.2 := Int.tdiv_le_self _ (by omega)
      unfold halfL at hxl
      simp only [List.mem_cons, List.not_mem_nil, or_false] at hxl
      rcases hxl with rfl | rfl <;> simp only [lineB, Bool.and_eq_true, decide_eq_true_eq] <;> omega
  · rw [decide_eq_false hs, Bool.and_false, Bool.and_false]
theorem saleE_split {d : Int} (hd : 1 ≤ d) {ls : List Ln} (hl : ls.length ≤ 18) (total : Int) (pn : ByteArray) (ms : List Mn) : saleE (splitL d ls) total pn ms = saleE ls total pn ms := by
  unfold saleE
  rw [right_split hd hl]
theorem saleL_split {d : Int} (hd : 1 ≤ d) {ls : List Ln} (hl : ls.length ≤ 18) (total : Int) (pn : ByteArray) (ms : List Mn) : saleL (splitL d ls) total pn ms = saleL ls total pn ms := by
  unfold saleL
  rw [saleE_split hd hl, part_split, part_split, part_split]
theorem refundE_split {d : Int} (hd : 1 ≤ d) {ls : List Ln} (hl : ls.length ≤ 18) (total n : Int) (ms : List Mn) : refundE (splitL d ls) total n ms = refundE ls total n ms := by
  unfold refundE
  rw [right_split hd hl]
theorem refundL_split {d : Int} (hd : 1 ≤ d) {ls : List Ln} (hl : ls.length ≤ 18) (total n : Int) (ms : List Mn) : refundL (splitL d ls) total n ms = refundL ls total n ms := by
  unfold refundL
  rw [refundE_split hd hl, part_split, part_split, part_split]
theorem backE_split {d : Int} (hd : 1 ≤ d) {ls : List Ln} (hl : ls.length ≤ 18) (kd total a b : Int) : backE kd (splitL d ls) total a b = backE kd ls total a b := by
  unfold backE
  rw [right_split hd hl, part_split]
theorem backV_split {d : Int} (hd : 1 ≤ d) {ls : List Ln} (hl : ls.length ≤ 18) (kd total a b : Int) : backV kd (splitL d ls) total a b = backV kd ls total a b := by
  unfold backV
  rw [right_split hd hl, part_split]
theorem resaleE_split {d : Int} (hd : 1 ≤ d) {ls : List Ln} (hl : ls.length ≤ 18) (n total cn cd sn sd : Int) (pn : ByteArray) (ms : List Mn) : resaleE n (splitL d ls) total cn cd sn sd pn ms = resaleE n ls total cn cd sn sd pn ms := by
  unfold resaleE
  rw [backE_split hd hl, backV_split hd hl]
theorem resaleL_split {d : Int} (hd : 1 ≤ d) {ls : List Ln} (hl : ls.length ≤ 18) (n total cn cd sn sd : Int) (pn : ByteArray) (ms : List Mn) : resaleL n (splitL d ls) total cn cd sn sd pn ms = resaleL n ls total cn cd sn sd pn ms := by
  unfold resaleL
  rw [resaleE_split hd hl]
theorem tdiv_bd {a d : Int} (hd : 1 ≤ d) (h1 : -9223372036854775808 ≤ a) (h2 : a ≤ 9223372036854775807) : (-9223372036854775808 ≤ a.tdiv d ∧ a.tdiv d ≤ 9223372036854775807) ∧ (-9223372036854775808 ≤ a - a.tdiv d ∧ a - a.tdiv d ≤ 9223372036854775807) := by
  rcases Int.le_total 0 a with h | h
  · have q0 : 0 ≤ a.tdiv d := Int.tdiv_nonneg (by omega) (by omega)
    have q1 : a.tdiv d ≤ a := Int.tdiv_le_self _ (by omega)
    omega
  · have q0 : 0 ≤ (-a).tdiv d := Int.tdiv_nonneg (by omega) (by omega)
    have q1 : (-a).tdiv d ≤ -a := Int.tdiv_le_self _ (by omega)
    rw [Int.neg_tdiv] at q0 q1
    omega
theorem one_line : ∀ (w : World) B cs x, tLine.rd w B cs x → ∀ u ∈ cs, u.oneCell' = true := fun w B cs x h u hu => by
  obtain ⟨c1, c2, rfl, ⟨rfl, _⟩, ⟨rfl, _⟩⟩ := h
  simp at hu
  rcases hu with rfl | rfl <;> rfl
end Go.Proofs.Ytggmihnhdojepaa
