/- Layer 13 (decide): what the judge's notes say, in terms of the first rule of each kind that holds. No program here. -/
import Derived.Test.YtmklcfmdcfbpeaaDecW
import Derived.Test.YtmklcfmdcfbpeaaDecG
namespace Go.Proofs.Ytmklcfmdcfbpeaa
open Go.RowKit
set_option linter.unusedVariables false
set_option linter.unusedSimpArgs false

-- BODY
theorem firstTo_lo (f : Fc) (q : Int) (rs : List Rl) : ∀ k, -1 ≤ firstTo f q rs k ∧ firstTo f q rs k < k
  | 0 => ⟨by show (-1 : Int) ≤ -1; omega, by show (-1 : Int) < 0; omega⟩
  | k + 1 => by
    have ih := firstTo_lo f q rs k
    show -1 ≤ (if 0 ≤ firstTo f q rs k then firstTo f q rs k else match rs[k]? with | some r => if r.1 = q ∧ holdsB r f = true then (k : Int) else -1 | none => -1) ∧ (if 0 ≤ firstTo f q rs k then firstTo f q rs k else match rs[k]? with | some r => if r.1 = q ∧ holdsB r f = true then (k : Int) else -1 | none => -1) < ((k + 1 : Nat) : Int)
    split
    · omega
    · split
      · split <;> omega
      · omega
theorem first_same {f : Fc} {q : Int} {rs : List Rl} {k : Nat} {r : Rl} (hr : rs[k]? = some r) (hn : ¬ (r.1 = q ∧ holdsB r f = true)) : firstTo f q rs (k + 1) = firstTo f q rs k := by
  have h := firstTo_lo f q rs k
  by_cases h0 : 0 ≤ firstTo f q rs k
  · exact firstTo_stay h0 _ (by omega)
  · have e : firstTo f q rs k = -1 := by omega
    rw [e, firstTo_miss e hr hn]
theorem first_new {f : Fc} {q : Int} {rs : List Rl} {k : Nat} {r : Rl} (hr : rs[k]? = some r) (hn : r.1 = q ∧ holdsB r f = true) : firstTo f q rs (k + 1) = if 0 ≤ firstTo f q rs k then firstTo f q rs k else k := by
  have h := firstTo_lo f q rs k
  by_cases h0 : 0 ≤ firstTo f q rs k
  · rw [if_pos h0]; exact firstTo_stay h0 _ (by omega)
  · have e : firstTo f q rs k = -1 := by omega
    rw [if_neg h0, firstTo_hit e hr hn]

structure Sums (f : Fc) (rs : List Rl) (k : Nat) (s : JS) : Prop where
  al : s.al = firstTo f 1 rs k
  de : s.de = firstTo f 2 rs k
  pr : s.pr = decide (0 ≤ firstTo f 3 rs k)
  so : s.so = decide (0 ≤ firstTo f 4 rs k)
  ba : s.ba = decide (0 ≤ firstTo f 5 rs k)
  tg : s.tg = decide (0 ≤ firstTo f 6 rs k)
  si : s.si = decide (0 ≤ firstTo f 7 rs k)
  p1 : ∀ i : Nat, firstTo f 3 rs k = i → ∃ r, rs[i]? = some r ∧ s.price = r.2.2.2.1 ∧ s.fn = r.2.2.2.2.1.1 ∧ s.fd = r.2.2.2.2.1.2 ∧ s.tn = r.2.2.2.2.2.1 ∧ s.td = r.2.2.2.2.2.2
  p0 : firstTo f 3 rs k < 0 → s.price = 0 ∧ s.fn = 0 ∧ s.fd = 1 ∧ s.tn = 0 ∧ s.td = 1
  c1 : ∀ i : Nat, firstTo f 4 rs k = i → ∃ r, rs[i]? = some r ∧ s.cn = r.2.2.2.2.1.1 ∧ s.cd = r.2.2.2.2.1.2 ∧ s.sn = r.2.2.2.2.2.1 ∧ s.sd = r.2.2.2.2.2.2
  c0 : firstTo f 4 rs k < 0 → s.cn = 0 ∧ s.cd = 1 ∧ s.sn = 0 ∧ s.sd = 1
  b1 : ∀ i : Nat, firstTo f 5 rs k = i → ∃ r, rs[i]? = some r ∧ s.rn = r.2.2.2.2.1.1 ∧ s.rd = r.2.2.2.2.1.2
  b0 : firstTo f 5 rs k < 0 → s.rn = 0 ∧ s.rd = 1

theorem sums_keep {f : Fc} {rs : List Rl} {k : Nat} {s : JS} (h : Sums f rs k s) (e : ∀ q, firstTo f q rs (k + 1) = firstTo f q rs k) : Sums f rs (k + 1) s :=
  ⟨by rw [e]; exact h.al, by rw [e]; exact h.de, by rw [e]; exact h.pr, by rw [e]; exact h.so, by rw [e]; exact h.ba, by rw [e]; exact h.tg, by rw [e]; exact h.si, by rw [e]; exact h.p1, by rw [e]; exact h.p0, by rw [e]; exact h.c1, by rw [e]; exact h.c0, by rw [e]; exact h.b1, by rw [e]; exact h.b0⟩

theorem sums_step {f : Fc} {rs : List Rl} {k : Nat} {s : JS} {r : Rl} (h : Sums f rs k s) (hr : rs[k]? = some r) : Sums f rs (k + 1) (stepJ f s k r) := by
  unfold stepJ
  by_cases hh : holdsB r f = true
  · rw [if_pos hh]
    have e : ∀ q, r.1 ≠ q → firstTo f q rs (k + 1) = firstTo f q rs k := fun q hq => first_same hr (fun h => hq h.1)
    unfold noteJ
    by_cases k1 : r.1 = 1
    · rw [if_pos k1]
      have en := first_new (f := f) hr ⟨k1, hh⟩
      exact ⟨by rw [en]; show (if s.al < 0 then (k : Int) else s.al) = _; rw [h.al]; split <;> split <;> omega, by rw [e 2 (by omega)]; exact h.de, by rw [e 3 (by omega)]; exact h.pr, by rw [e 4 (by omega)]; exact h.so, by rw [e 5 (by omega)]; exact h.ba, by rw [e 6 (by omega)]; exact h.tg, by rw [e 7 (by omega)]; exact h.si, by rw [e 3 (by omega)]; exact h.p1, by rw [e 3 (by omega)]; exact h.p0, by rw [e 4 (by omega)]; exact h.c1, by rw [e 4 (by omega)]; exact h.c0, by rw [e 5 (by omega)]; exact h.b1, by rw [e 5 (by omega)]; exact h.b0⟩
    rw [if_neg k1]
    by_cases k2 : r.1 = 2
    · rw [if_pos k2]
      have en := first_new (f := f) hr ⟨k2, hh⟩
      exact ⟨by rw [e 1 (by omega)]; exact h.al, by rw [en]; show (if s.de < 0 then (k : Int) else s.de) = _; rw [h.de]; split <;> split <;> omega, by rw [e 3 (by omega)]; exact h.pr, by rw [e 4 (by omega)]; exact h.so, by rw [e 5 (by omega)]; exact h.ba, by rw [e 6 (by omega)]; exact h.tg, by rw [e 7 (by omega)]; exact h.si, by rw [e 3 (by omega)]; exact h.p1, by rw [e 3 (by omega)]; exact h.p0, by rw [e 4 (by omega)]; exact h.c1, by rw [e 4 (by omega)]; exact h.c0, by rw [e 5 (by omega)]; exact h.b1, by rw [e 5 (by omega)]; exact h.b0⟩
    rw [if_neg k2]
    by_cases k3 : r.1 = 3
    · rw [if_pos k3]
      have en := first_new (f := f) hr ⟨k3, hh⟩
      unfold priceJ
      by_cases hp : 0 ≤ firstTo f 3 rs k
      · rw [if_pos (by rw [h.pr, decide_eq_true hp])]
        rw [if_pos hp] at en
        exact sums_keep h fun q => by
          by_cases hq : r.1 = q
          · rw [← hq, k3]; exact en
          · exact e q hq
      · rw [if_neg (by rw [h.pr, decide_eq_false hp]; decide)]
        rw [if_neg hp] at en
        exact ⟨by rw [e 1 (by omega)]; exact h.al, by rw [e 2 (by omega)]; exact h.de, by rw [en]; show true = _; simp, by rw [e 4 (by omega)]; exact h.so, by rw [e 5 (by omega)]; exact h.ba, by rw [e 6 (by omega)]; exact h.tg, by rw [e 7 (by omega)]; exact h.si, fun i hi => ⟨r, by rw [en] at hi; have hki : k = i := (by omega); rw [← hki]; exact hr, rfl, rfl, rfl, rfl, rfl⟩, fun hn => by rw [en] at hn; omega, by rw [e 4 (by omega)]; exact h.c1, by rw [e 4 (by omega)]; exact h.c0, by rw [e 5 (by omega)]; exact h.b1, by rw [e 5 (by omega)]; exact h.b0⟩
    rw [if_neg k3]
    by_cases k4 : r.1 = 4
    · rw [if_pos k4]
      have en := first_new (f := f) hr ⟨k4, hh⟩
      unfold resellJ
      by_cases hp : 0 ≤ firstTo f 4 rs k
      · rw [if_pos (by rw [h.so, decide_eq_true hp])]
        rw [if_pos hp] at en
        exact sums_keep h fun q => by
          by_cases hq : r.1 = q
          · rw [← hq, k4]; exact en
          · exact e q hq
      · rw [if_neg (by rw [h.so, decide_eq_false hp]; decide)]
        rw [if_neg hp] at en
        exact ⟨by rw [e 1 (by omega)]; exact h.al, by rw [e 2 (by omega)]; exact h.de, by rw [e 3 (by omega)]; exact h.pr, by rw [en]; show true = _; simp, by rw [e 5 (by omega)]; exact h.ba, by rw [e 6 (by omega)]; exact h.tg, by rw [e 7 (by omega)]; exact h.si, by rw [e 3 (by omega)]; exact h.p1, by rw [e 3 (by omega)]; exact h.p0, fun i hi => ⟨r, by rw [en] at hi; have hki : k = i := (by omega); rw [← hki]; exact hr, rfl, rfl, rfl, rfl⟩, fun hn => by rw [en] at hn; omega, by rw [e 5 (by omega)]; exact h.b1, by rw [e 5 (by omega)]; exact h.b0⟩
    rw [if_neg k4]
    by_cases k5 : r.1 = 5
    · rw [if_pos k5]
      have en := first_new (f := f) hr ⟨k5, hh⟩
      unfold refundJ
      by_cases hp : 0 ≤ firstTo f 5 rs k
      · rw [if_pos (by rw [h.ba, decide_eq_true hp])]
        rw [if_pos hp] at en
        exact sums_keep h fun q => by
          by_cases hq : r.1 = q
          · rw [← hq, k5]; exact en
          · exact e q hq
      · rw [if_neg (by rw [h.ba, decide_eq_false hp]; decide)]
        rw [if_neg hp] at en
        exact ⟨by rw [e 1 (by omega)]; exact h.al, by rw [e 2 (by omega)]; exact h.de, by rw [e 3 (by omega)]; exact h.pr, by rw [e 4 (by omega)]; exact h.so, by rw [en]; show true = _; simp, by rw [e 6 (by omega)]; exact h.tg, by rw [e 7 (by omega)]; exact h.si, by rw [e 3 (by omega)]; exact h.p1, by rw [e 3 (by omega)]; exact h.p0, by rw [e 4 (by omega)]; exact h.c1, by rw [e 4 (by omega)]; exact h.c0, fun i hi => ⟨r, by rw [en] at hi; have hki : k = i := (by omega); rw [← hki]; exact hr, rfl, rfl⟩, fun hn => by rw [en] at hn; omega⟩
    rw [if_neg k5]
    by_cases k6 : r.1 = 6
    · rw [if_pos k6]
      have en := first_new (f := f) hr ⟨k6, hh⟩
      have en' : 0 ≤ firstTo f 6 rs (k + 1) := by rw [en]; split <;> omega
      exact ⟨by rw [e 1 (by omega)]; exact h.al, by rw [e 2 (by omega)]; exact h.de, by rw [e 3 (by omega)]; exact h.pr, by rw [e 4 (by omega)]; exact h.so, by rw [e 5 (by omega)]; exact h.ba, by rw [decide_eq_true en'], by rw [e 7 (by omega)]; exact h.si, by rw [e 3 (by omega)]; exact h.p1, by rw [e 3 (by omega)]; exact h.p0, by rw [e 4 (by omega)]; exact h.c1, by rw [e 4 (by omega)]; exact h.c0, by rw [e 5 (by omega)]; exact h.b1, by rw [e 5 (by omega)]; exact h.b0⟩
    rw [if_neg k6]
    by_cases k7 : r.1 = 7
    · rw [if_pos k7]
      have en := first_new (f := f) hr ⟨k7, hh⟩
      have en' : 0 ≤ firstTo f 7 rs (k + 1) := by rw [en]; split <;> omega
      exact ⟨by rw [e 1 (by omega)]; exact h.al, by rw [e 2 (by omega)]; exact h.de, by rw [e 3 (by omega)]; exact h.pr, by rw [e 4 (by omega)]; exact h.so, by rw [e 5 (by omega)]; exact h.ba, by rw [e 6 (by omega)]; exact h.tg, by rw [decide_eq_true en'], by rw [e 3 (by omega)]; exact h.p1, by rw [e 3 (by omega)]; exact h.p0, by rw [e 4 (by omega)]; exact h.c1, by rw [e 4 (by omega)]; exact h.c0, by rw [e 5 (by omega)]; exact h.b1, by rw [e 5 (by omega)]; exact h.b0⟩
    rw [if_neg k7]
    refine ⟨by rw [e 1 k1]; exact h.al, by rw [e 2 k2]; exact h.de, by rw [e 3 k3]; exact h.pr, by rw [e 4 k4]; exact h.so, by rw [e 5 k5]; exact h.ba, by rw [e 6 k6]; exact h.tg, by rw [e 7 k7]; exact h.si, by rw [e 3 k3]; exact h.p1, by rw [e 3 k3]; exact h.p0, by rw [e 4 k4]; exact h.c1, by rw [e 4 k4]; exact h.c0, by rw [e 5 k5]; exact h.b1, by rw [e 5 k5]; exact h.b0⟩
  · rw [if_neg hh]
    exact sums_keep h fun q => first_same hr (fun h => hh h.2)
theorem sums_run {f : Fc} {rs : List Rl} : ∀ k, k ≤ rs.length → Sums f rs k (runJ f rs k)
  | 0, _ => ⟨rfl, rfl, rfl, rfl, rfl, rfl, rfl, fun i h => by have h2 : (-1 : Int) = i := h; omega, fun _ => ⟨rfl, rfl, rfl, rfl, rfl⟩, fun i h => by have h2 : (-1 : Int) = i := h; omega, fun _ => ⟨rfl, rfl, rfl, rfl⟩, fun i h => by have h2 : (-1 : Int) = i := h; omega, fun _ => ⟨rfl, rfl⟩⟩
  | k + 1, hk => by
    have hr : rs[k]? = some rs[k] := List.getElem?_eq_getElem (by omega)
    rw [runJ_step hr]
    exact sums_step (sums_run k (by omega)) hr
theorem lim_step {f : Fc} {rs : List Rl} {k : Nat} {r : Rl} (hr : rs[k]? = some r) : (runJ f rs (k + 1)).lim = if r.1 = 1 ∧ holdsB r f = true ∧ 0 < r.2.2.2.1 ∧ ((runJ f rs k).lim = 0 ∨ r.2.2.2.1 < (runJ f rs k).lim) then r.2.2.2.1 else (runJ f rs k).lim := by
  rw [runJ_step hr]
  generalize runJ f rs k = s
  unfold stepJ
  by_cases hh : holdsB r f = true
  · rw [if_pos hh]
    unfold noteJ
    by_cases k1 : r.1 = 1
    · rw [if_pos k1]
      show (if 0 < r.2.2.2.1 ∧ (s.lim = 0 ∨ r.2.2.2.1 < s.lim) then r.2.2.2.1 else s.lim) = _
      simp only [k1, hh, true_and]
    · have hne : ¬ (r.1 = 1 ∧ holdsB r f = true ∧ 0 < r.2.2.2.1 ∧ (s.lim = 0 ∨ r.2.2.2.1 < s.lim)) := fun h => k1 h.1
      rw [if_neg k1, if_neg hne]
      unfold forbidJ priceJ resellJ refundJ
      repeat' split
      all_goals rfl
  · have hne : ¬ (r.1 = 1 ∧ holdsB r f = true ∧ 0 < r.2.2.2.1 ∧ (s.lim = 0 ∨ r.2.2.2.1 < s.lim)) := fun h => hh h.2.1
    rw [if_neg hh, if_neg hne]
end Go.Proofs.Ytmklcfmdcfbpeaa
