/- Layer 34 (deal), in plain numbers: what accounts get of a booking; the refund of the whole. No program here. -/
import Derived.Test.YtggmihnhdojepaaDealX
namespace Go.Proofs.Ytggmihnhdojepaa
open Go.RowKit
set_option linter.unusedVariables false
set_option linter.unusedSimpArgs false

theorem split_total (a b c : Int) (h : 0 < a + b + c) : splitP (a + b + c) a b c = (a, b, c) := by
  have hq : ∀ x : Int, (a + b + c) * x / (a + b + c) = x := fun x => Int.mul_ediv_cancel_left x (by omega)
  have hl : leftP (a + b + c) a b c = 0 := by
    unfold leftP
    rw [hq, hq, hq]
    omega
  have hi : ∀ (o : Nat × Nat × Nat) (i : Nat), incN o 0 i = 0 := fun o i => by unfold incN; rw [if_neg (by omega)]
  unfold splitP
  rw [hl, hi, hi, hi, hq, hq, hq]
  simp

theorem toP_app (a b : List Pst) (kd : Int) (nm : ByteArray) : toP (a ++ b) kd nm = toP a kd nm + toP b kd nm := by
  unfold toP
  rw [List.filter_append, List.map_append, sum_app]
theorem toP_post (p : Pst) (kd : Int) (nm : ByteArray) : toP (postL [p]) kd nm = if p.1 = (kd, nm) then p.2 else 0 := by
  unfold toP postL
  by_cases h0 : p.2 = 0
  · have : nzP p = false := by simp [nzP, h0]
    rw [List.filter_cons, this]
    simp [h0]
  · have : nzP p = true := by simp [nzP, h0]
    rw [List.filter_cons, this]
    by_cases e : p.1 = (kd, nm) <;> simp [e]
theorem parts_app (a b c : Int) : partsL a b c = postL [((2, noName), a)] ++ (postL [((1, noName), b)] ++ postL [((3, noName), c)]) := by
  unfold partsL postL
  rw [← List.filter_append, ← List.filter_append]
  rfl
theorem toP_parts (a b c : Int) (kd : Int) : toP (partsL a b c) kd noName = (if kd = 2 then a else 0) + ((if kd = 1 then b else 0) + (if kd = 3 then c else 0)) := by
  rw [parts_app, toP_app, toP_app, toP_post, toP_post, toP_post]
  simp only [Prod.mk.injEq, and_true]
  congr 1
  · by_cases h : kd = 2
    · subst h; simp
    · rw [if_neg (fun e => h e.symm), if_neg h]
  · congr 1
    · by_cases h : kd = 1
      · subst h; simp
      · rw [if_neg (fun e => h e.symm), if_neg h]
    · by_cases h : kd = 3
      · subst h; simp
      · rw [if_neg (fun e => h e.symm), if_neg h]
theorem payL_cons (m : Mn) (ms : List Mn) (s : Int) : payL (m :: ms) s = postL [((5, m.1), s * m.2)] ++ payL ms s := by
  unfold payL postL
  rw [← List.filter_append]
  rfl
theorem toP_pay_other (ms : List Mn) (s : Int) (kd : Int) (nm : ByteArray) (h : kd ≠ 5) : toP (payL ms s) kd nm = 0 := by
  induction ms with
  | nil => rfl
  | cons m ms ih =>
    rw [payL_cons, toP_app, toP_post, ih, if_neg (fun e => h (by injection e with e1 e2; exact e1.symm))]
    rfl
theorem toP_parts_means (a b c : Int) (nm : ByteArray) : toP (partsL a b c) 5 nm = 0 := by
  rw [parts_app, toP_app, toP_app, toP_post, toP_post, toP_post, if_neg (by simp), if_neg (by simp), if_neg (by simp)]
  rfl
theorem toP_pay_none (ms : List Mn) (s : Int) (nm : ByteArray) (h : hasM ms nm = false) : toP (payL ms s) 5 nm = 0 := by
  induction ms with
  | nil => rfl
  | cons m ms ih =>
    have h2 : (decide (m.1 = nm) || hasM ms nm) = false := h
    rw [Bool.or_eq_false_iff, decide_eq_false_iff_not] at h2
    rw [payL_cons, toP_app, toP_post, ih h2.2, if_neg (fun e => h2.1 (by injection e))]
    rfl
theorem okM_at {ms : List Mn} (h : okM ms = true) {j : Nat} {m : Mn} (hj : ms[j]? = some m) : hasM (ms.take j) m.1 = false := by
  unfold okM at h
  have := List.all_eq_true.1 h j (List.mem_range.2 (List.getElem?_eq_some_iff.1 hj).1)
  rw [hj] at this
  simp only [Bool.not_eq_true'] at this
  exact (badM_false this).1
/-- Each means loses its amount, times the sign. -/
theorem toP_pay_at {ms : List Mn} (h : okM ms = true) (s : Int) {i : Nat} {m : Mn} (hi : ms[i]? = some m) : toP (payL ms s) 5 m.1 = s * m.2 := by
  have hlt := (List.getElem?_eq_some_iff.1 hi).1
  have e : ms = ms.take i ++ (m :: ms.drop (i + 1)) := by
    have := (List.getElem?_eq_some_iff.1 hi).2
    rw [← this, List.getElem_cons_drop]
    exact (List.take_append_drop i ms).symm
  have hp : payL ms s = payL (ms.take i) s ++ (postL [((5, m.1), s * m.2)] ++ payL (ms.drop (i + 1)) s) := by
    conv => lhs; rw [e]
    rw [← payL_cons]
    unfold payL postL
    rw [List.map_append, List.filter_append]
  have hd : hasM (ms.drop (i + 1)) m.1 = false := by
    unfold hasM
    rw [List.any_eq_false]
    intro x hx
    obtain ⟨k, hk, rfl⟩ := List.getElem_of_mem hx
    have hkl : k < ms.length - (i + 1) := by rw [List.length_drop] at hk; exact hk
    have hj : ms[i + 1 + k]? = some (ms.drop (i + 1))[k] := by
      rw [List.getElem_drop]
      exact List.getElem?_eq_getElem (by omega)
    have h1 := okM_at h hj
    intro hc
    have hc2 : (ms.drop (i + 1))[k].1 = m.1 := by simpa using hc
    rw [hc2] at h1
    unfold hasM at h1
    rw [List.any_eq_false] at h1
    refine h1 m ?_ (by simp)
    exact List.mem_of_getElem? (i := i) (by rw [List.getElem?_take_of_lt (by omega)]; exact hi)
  rw [hp, toP_app, toP_app, toP_post, if_pos rfl, toP_pay_none _ _ _ (okM_at h hi), toP_pay_none _ _ _ hd]
  omega

/-! ### the refund of the whole -/
def negP (p : Pst) : Pst := (p.1, -p.2)
theorem neg_post (ps : List Pst) : (postL ps).map negP = postL (ps.map negP) := by
  induction ps with
  | nil => rfl
  | cons p ps ih =>
    have e : nzP (negP p) = nzP p := by simp [nzP, negP]
    unfold postL at ih ⊢
    rw [List.map_cons, List.filter_cons, List.filter_cons, e]
    cases nzP p
    · exact ih
    · simp [ih]
theorem neg_pay (ms : List Mn) : (payL ms (-1)).map negP = payL ms 1 := by
  unfold payL
  rw [neg_post, List.map_map]
  congr 1
  apply List.map_congr_left
  intro m _
  simp [negP]
theorem neg_parts (a b c : Int) : (partsL a b c).map negP = partsL (-a) (-b) (-c) := by
  unfold partsL
  rw [neg_post]
  rfl
theorem refund_total {ls : List Ln} {total : Int} {pn : ByteArray} {ms : List Mn} (h : saleE ls total pn ms = 0) : refundE ls total total ms = 0 ∧ refundL ls total total ms = (saleL ls total pn ms).map negP := by
  have h0 := h
  unfold saleE at h0
  by_cases h1 : (rightB ls total && nameB pn && totB ms) = true
  · rw [if_pos h1] at h0
    by_cases h2 : sumM ms = total
    · simp only [Bool.and_eq_true] at h1
      obtain ⟨⟨h3, _⟩, h4⟩ := h1
      obtain ⟨hall, hsum, ht0, ht1⟩ := right_out h3
      have hE : refundE ls total total ms = 0 := by
        unfold refundE
        rw [if_pos ⟨h3, ht0, h4⟩, if_pos ⟨Int.le_refl _, h2⟩]
      refine ⟨hE, ?_⟩
      unfold refundL saleL
      rw [if_pos hE, if_pos h, List.map_append, neg_pay, neg_parts]
      congr 1
      have hp := parts_sum ls hall
      rw [hsum] at hp
      by_cases ht : total = 0
      · rw [if_pos ht]
        have b1 := partOf_bd 1 ls hall
        have b2 := partOf_bd 2 ls hall
        have b3 := partOf_bd 3 ls hall
        have e1 : partOf 1 ls = 0 := by omega
        have e2 : partOf 2 ls = 0 := by omega
        have e3 : partOf 3 ls = 0 := by omega
        rw [e1, e2, e3]
        rfl
      · rw [if_neg ht]
        unfold backL
        rw [← hp, split_total _ _ _ (by omega)]
    · rw [if_neg h2] at h0; exact absurd h0 (by decide)
  · rw [if_neg h1] at h0; exact absurd h0 (by decide)

/-! ### bookings add up to 0 -/
def sumP (ps : List Pst) : Int := (ps.map (·.2)).foldr (· + ·) 0
theorem sumP_app (a b : List Pst) : sumP (a ++ b) = sumP a + sumP b := by
  unfold sumP
  rw [List.map_append, sum_app]
theorem sumP_cons (p : Pst) (ps : List Pst) : sumP (p :: ps) = p.2 + sumP ps := rfl
theorem sumP_post (ps : List Pst) : sumP (postL ps) = sumP ps := by
  induction ps with
  | nil => rfl
  | cons p ps ih =>
    unfold postL at ih ⊢
    rw [List.filter_cons]
    by_cases h0 : p.2 = 0
    · have : nzP p = false := by simp [nzP, h0]
      rw [this, sumP_cons, h0]
      simpa using ih
    · have : nzP p = true := by simp [nzP, h0]
      rw [this, if_pos rfl, sumP_cons, sumP_cons, ih]
theorem sumM_cons (m : Mn) (ms : List Mn) : sumM (m :: ms) = m.2 + sumM ms := rfl
theorem sumP_pay (ms : List Mn) (s : Int) : sumP (payL ms s) = s * sumM ms := by
  unfold payL
  rw [sumP_post]
  induction ms with
  | nil => simp [sumP, sumM]
  | cons m ms ih => rw [List.map_cons, sumP_cons, ih, sumM_cons, Int.mul_add]
theorem sumP_parts (a b c : Int) : sumP (partsL a b c) = a + b + c := by
  unfold partsL
  rw [sumP_post, sumP_cons, sumP_cons, sumP_cons]
  show a + (b + (c + 0)) = _
  omega
theorem inc_sum {r1 r2 r3 : Int} {l : Int} (h : 0 ≤ l ∧ l ≤ 2) : incN (ord3 r1 r2 r3) l 0 + incN (ord3 r1 r2 r3) l 1 + incN (ord3 r1 r2 r3) l 2 = l := by
  obtain ⟨o1, o2, o3, hO⟩ : ∃ o1 o2 o3, ord3 r1 r2 r3 = (o1, o2, o3) := ⟨_, _, _, rfl⟩
  have h6 := ord3_in hO
  rw [hO]
  have hl : l = 0 ∨ l = 1 ∨ l = 2 := by omega
  rcases h6 with e | e | e | e | e | e <;> (rw [e]; rcases hl with rfl | rfl | rfl <;> simp [incN])
theorem split_sum (n a b c : Int) (h : 0 < a + b + c) : (splitP n a b c).1 + (splitP n a b c).2.1 + (splitP n a b c).2.2 = n := by
  have hi := inc_sum (r1 := n * a % (a + b + c)) (r2 := n * b % (a + b + c)) (r3 := n * c % (a + b + c)) (left_bd n a b c h)
  have hl : leftP n a b c = n - (n * a / (a + b + c) + n * b / (a + b + c) + n * c / (a + b + c)) := rfl
  unfold splitP ordP
  simp only
  omega
theorem sale_zero (ls : List Ln) (total : Int) (pn : ByteArray) (ms : List Mn) : sumP (saleL ls total pn ms) = 0 := by
  unfold saleL
  by_cases h : saleE ls total pn ms = 0
  · rw [if_pos h, sumP_app, sumP_pay, sumP_parts]
    unfold saleE at h
    by_cases h1 : (rightB ls total && nameB pn && totB ms) = true
    · rw [if_pos h1] at h
      by_cases h2 : sumM ms = total
      · simp only [Bool.and_eq_true] at h1
        obtain ⟨hall, hsum, _⟩ := right_out h1.1.1
        have := parts_sum ls hall
        omega
      · rw [if_neg h2] at h; exact absurd h (by decide)
    · rw [if_neg h1] at h; exact absurd h (by decide)
  · rw [if_neg h]; rfl
theorem refund_zero (ls : List Ln) (total amount : Int) (ms : List Mn) : sumP (refundL ls total amount ms) = 0 := by
  unfold refundL
  by_cases h : refundE ls total amount ms = 0
  · rw [if_pos h, sumP_app, sumP_pay]
    unfold refundE at h
    by_cases h1 : rightB ls total = true ∧ 0 ≤ amount ∧ totB ms = true
    · rw [if_pos h1] at h
      by_cases h2 : amount ≤ total ∧ sumM ms = amount
      · obtain ⟨hall, hsum, ht0, _⟩ := right_out h1.1
        have hp := parts_sum ls hall
        by_cases ht : total = 0
        · rw [if_pos ht]
          show 1 * sumM ms + 0 = 0
          omega
        · rw [if_neg ht]
          unfold backL
          rw [sumP_parts]
          have := split_sum amount (partOf 1 ls) (partOf 2 ls) (partOf 3 ls) (by omega)
          omega
      · rw [if_neg h2] at h; exact absurd h (by decide)
    · rw [if_neg h1] at h; exact absurd h (by decide)
  · rw [if_neg h]; rfl
theorem resale_zero (n : Int) (ls : List Ln) (total cn cd sn sd : Int) (pn : ByteArray) (ms : List Mn) : sumP (resaleL n ls total cn cd sn sd pn ms) = 0 := by
  unfold resaleL
  by_cases h : resaleE n ls total cn cd sn sd pn ms = 0
  · rw [if_pos h, sumP_app, sumP_pay, sumP_post, sumP_cons, sumP_cons]
    unfold resaleE at h
    split at h
    · split at h
      · rename_i h1; exact absurd h h1
      · split at h
        · exact absurd h (by decide)
        · split at h
          · rename_i h2
            show -1 * sumM ms + (shareV n sn sd + (n - shareV n sn sd + 0)) = 0
            omega
          · exact absurd h (by decide)
    · exact absurd h (by decide)
  · rw [if_neg h]; rfl
end Go.Proofs.Ytggmihnhdojepaa
