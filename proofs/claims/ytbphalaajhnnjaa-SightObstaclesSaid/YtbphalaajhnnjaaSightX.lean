/- SightObstacles: what a pillar more and a greater height do, in plain words; the copied levels in memory. -/
import Derived.Test.YtbphalaajhnnjaaSightM
import Derived.Test.YtbphalaajhnnjaaSightK
import Derived.Test.YtbphalaajhnnjaaCopy
namespace Go.Proofs.Ytbphalaajhnnjaa
open Go.RowKit
set_option linter.unusedVariables false
set_option linter.unusedSimpArgs false

/-! ### plain -/
theorem viewZ_hit {nm : ByteArray} {sx sy px py : Int} {ls : List Lv} {i : Nat} {l : Lv} (h : ls[i]? = some l) : viewZ (nm, (sx, sy), ls) i (px, py) = viewB px py sx sy l := by
  unfold viewZ
  rw [if_neg (by omega)]
  simp [h]
theorem viewB_ge (px py sx sy : Int) (l : Lv) : 0 ≤ viewB px py sx sy l ∧ viewB px py sx sy l ≤ 3 := by
  unfold viewB
  split <;> omega
theorem view_pillar {px py sx sy ht : Int} {nm : ByteArray} {q1 q2 q3 q4 : Hd} {ps : List Bx} {at_ : Int} {b : Bx} :
    viewB px py sx sy (nm, ht, q1, q2, q3, ps ++ [b], q4, at_) = if viewB px py sx sy (nm, ht, q1, q2, q3, ps, q4, at_) < 3 ∧ hitB px py sx sy b = true then viewB px py sx sy (nm, ht, q1, q2, q3, ps, q4, at_) + 1 else viewB px py sx sy (nm, ht, q1, q2, q3, ps, q4, at_) := by
  unfold viewB
  simp only
  by_cases hc : [px, py, sx, sy, ht].all coordB = true
  · rw [if_pos hc, if_pos hc]
    have e : viewN px py sx sy ht (ps ++ [b]) = viewN px py sx sy ht ps + if hitB px py sx sy b = true then 1 else 0 := by
      unfold viewN
      rw [List.countP_append, List.countP_singleton]
      omega
    rw [e]
    by_cases hh : hitB px py sx sy b = true
    · rw [if_pos hh]
      by_cases h3 : min ((viewN px py sx sy ht ps : Nat) : Int) 3 < 3
      · rw [if_pos ⟨h3, hh⟩]; omega
      · rw [if_neg (fun h => h3 h.1)]; omega
    · rw [if_neg hh, if_neg (fun h => hh h.2)]; omega
  · rw [if_neg hc, if_neg hc, if_neg (fun h => absurd h.1 (by omega))]
theorem sq_mono {a b : Int} (h0 : 0 ≤ a) (h : a ≤ b) : a * a ≤ b * b := Int.mul_le_mul h h h0 (by omega)
theorem view_height {px py sx sy ht h2 : Int} {nm : ByteArray} {q1 q2 q3 q4 : Hd} {ps : List Bx} {at_ : Int} (h0 : 0 ≤ ht) (h : ht ≤ h2) :
    viewB px py sx sy (nm, ht, q1, q2, q3, ps, q4, at_) ≤ viewB px py sx sy (nm, h2, q1, q2, q3, ps, q4, at_) := by
  by_cases hc : [px, py, sx, sy, h2].all coordB = true
  · have hc1 : [px, py, sx, sy, ht].all coordB = true := by
      simp only [List.all_cons, List.all_nil, Bool.and_true, Bool.and_eq_true, coordB, decide_eq_true_eq] at hc ⊢
      omega
    unfold viewB
    simp only
    rw [if_pos hc, if_pos hc1]
    have hs := sq_mono h0 h
    have e : viewN px py sx sy ht ps ≤ viewN px py sx sy h2 ps := by
      unfold viewN distZ
      have : ∀ (c d e : Int), d ≤ e → (if c < d then (1 : Nat) else 0) ≤ if c < e then 1 else 0 := fun c d e hde => by
        split
        · rw [if_pos (by omega)]; exact Nat.le_refl _
        · exact Nat.zero_le _
      have a1 := this 1000000 ((px - sx) * (px - sx) + (py - sy) * (py - sy) + ht * ht) ((px - sx) * (px - sx) + (py - sy) * (py - sy) + h2 * h2) (by omega)
      have a2 := this 9000000 ((px - sx) * (px - sx) + (py - sy) * (py - sy) + ht * ht) ((px - sx) * (px - sx) + (py - sy) * (py - sy) + h2 * h2) (by omega)
      omega
    omega
  · have : viewB px py sx sy (nm, h2, q1, q2, q3, ps, q4, at_) = 3 := by unfold viewB; rw [if_neg hc]
    rw [this]
    exact (viewB_ge _ _ _ _ _).2
theorem viewZ_other {nm : ByteArray} {sx sy px py : Int} {ls : List Lv} {i k : Nat} {l : Lv} (h : k ≠ i) : viewZ (nm, (sx, sy), ls.set i l) k (px, py) = viewZ (nm, (sx, sy), ls) k (px, py) := by
  unfold viewZ
  rw [if_neg (by omega), if_neg (by omega)]
  simp only [Int.toNat_natCast]
  rw [List.getElem?_set_ne (fun e => h e.symm)]
/-! ### memory -/
theorem flatten_set {α : Type} {n : Nat} : ∀ {css : List (List α)} {i j : Nat} {u : α} (h : ∀ c ∈ css, c.length = n) (hi : i < css.length) (hj : j < n), (css.set i (css[i].set j u)).flatten = css.flatten.set (i * n + j) u
  | [], i, j, u, h, hi, hj => absurd hi (by simp)
  | c :: css, 0, j, u, h, hi, hj => by
    have hc := h c (List.mem_cons_self ..)
    simp only [List.set_cons_zero, List.getElem_cons_zero, List.flatten_cons, Nat.zero_mul, Nat.zero_add]
    rw [List.set_append_left _ _ (by omega)]
  | c :: css, i + 1, j, u, h, hi, hj => by
    have hc := h c (List.mem_cons_self ..)
    have ih := flatten_set (css := css) (i := i) (j := j) (u := u) (fun c hc => h c (List.mem_cons_of_mem _ hc)) (by simpa using hi) hj
    simp only [List.set_cons_succ, List.getElem_cons_succ, List.flatten_cons, ih]
    have e : (i + 1) * n + j = c.length + (i * n + j) := by rw [hc, Nat.succ_mul]; omega
    rw [List.set_append_right _ _ (by omega), e, Nat.add_sub_cancel_left]
theorem own_setc {X : World} {base n c m g : Nat} {e : TypeId} {css : List (List Value)} (h : X.ownsRow base e n (.slice (some ⟨g, 0, none⟩) m c) m css.flatten) (hm : css.length = m) (hn : ∀ c ∈ css, c.length = n) {i j : Nat} {u : Value} (hi : i < css.length) (hj : j < n) :
    (X.setCell ⟨g, i * n + j, none⟩ u).ownsRow base e n (.slice (some ⟨g, 0, none⟩) m c) m (css.set i (css[i].set j u)).flatten := by
  obtain ⟨k0, ⟨e1, hz⟩ | ⟨g', cap, cur, e1, k1, k2, k3, k4, k5, k6⟩⟩ := h
  · cases e1
  injection e1 with e2 e3 e4
  injection e2 with e2
  injection e2 with e2
  subst e2
  subst e4
  rw [flatten_set hn hi hj]
  refine ⟨by rw [List.length_set]; exact k0, .inr ⟨g, c, cur.setIfInBounds (i * n + j) u, rfl, k1, Bk.set_ k2 _ _, k3, k4, by simpa using k5, ?_⟩⟩
  rw [Array.toList_setIfInBounds, ← k6, List.take_set]
theorem own_at {X : World} {base n c m g : Nat} {e : TypeId} {xs : List Value} (h : X.ownsRow base e n (.slice (some ⟨g, 0, none⟩) m c) m xs) : ∃ cur, Bk X g cur e ∧ m * n ≤ cur.size := by
  obtain ⟨k0, ⟨e1, hz⟩ | ⟨g', cap, cur, e1, k1, k2, k3, k4, k5, k6⟩⟩ := h
  · cases e1
  injection e1 with e2 e3 e4
  injection e2 with e2
  injection e2 with e2
  subst e2
  subst e4
  exact ⟨cur, k2, by rw [k5]; exact Nat.mul_le_mul_right _ k3⟩
variable {w6 w8 : World} {base B g1 k1 i : Nat} {ls : List Lv} {css : List (List Value)} {nm : ByteArray} {ht la : Int} {q1 q2 q3 q4 : Hd} {ps : List Bx}
/-- The copied levels, one of them with a pillar more. -/
theorem with_pillar (HB : Below w6.heap.size w6 w8) (own1 : w6.ownsRow base 51 8 (.slice (some ⟨g1, 0, none⟩) ls.length k1) ls.length css.flatten) (hg1 : g1 < w6.heap.size) (hg0 : B ≤ g1) (f1 : css.length = ls.length) (f2 : ∀ i (h1 : i < ls.length) (h2 : i < css.length), tLevel.rd w6 B css[i] ls[i])
    (hBw : B ≤ w6.heap.size) (Hx : ls[i]? = some (nm, ht, q1, q2, q3, ps, q4, la)) {A8 : Option Addr} {k8 : Nat} {pss : List (List Value)} {x y x2 y2 : Int} (own8 : w8.ownsRow w6.heap.size 25 4 (.slice A8 (ps.length + 1) k8) (ps.length + 1) (pss.flatten ++ [.int .i64 x, .int .i64 y, .int .i64 x2, .int .i64 y2]))
    (p1 : pss.length = ps.length) (p2 : ∀ i (h1 : i < ps.length) (h2 : i < pss.length), tBox.rd w6 B pss[i] ps[i]) (g1' : fits x) (g2' : fits y) (g3' : fits x2) (g4' : fits y2) :
    Elems tLevel (w8.setCell ⟨g1, i * 8 + 5, none⟩ (.slice A8 (ps.length + 1) k8)) (w8.setCell ⟨g1, i * 8 + 5, none⟩ (.slice A8 (ps.length + 1) k8)).heap.size (some ⟨g1, 0, none⟩) (ls.set i (nm, ht, q1, q2, q3, ps ++ [(x, y, x2, y2)], q4, la)) := by
  obtain ⟨hi, hx⟩ := List.getElem?_eq_some_iff.1 Hx
  have hz8 := HB.size
  have hn : ∀ c ∈ css, c.length = 8 := fun c hc => by
    obtain ⟨k, hk, rfl⟩ := List.mem_iff_getElem.1 hc
    exact tLevel.len (f2 k (by omega) hk)
  have o8 := own_keep own1 HB (fun g hg => by simp only [Value.ownBlock, Option.some.injEq] at hg; omega)
  have o9 := own_setc (j := 5) (u := .slice A8 (ps.length + 1) k8) o8 f1 hn (i := i) (by omega) (by decide)
  have hb8 : Below B w6 (w8.setCell ⟨g1, i * 8 + 5, none⟩ (.slice A8 (ps.length + 1) k8)) := (HB.mono hBw).setCell (by show B ≤ g1; exact hg0) _
  have hs : (w8.setCell ⟨g1, i * 8 + 5, none⟩ (.slice A8 (ps.length + 1) k8)).heap.size = w8.heap.size := by simp
  rw [hs]
  obtain ⟨g8, c8, rfl, k1', k2', k3', k4', k5', k6', k7'⟩ := own_block own8 (by omega)
  have o8' : (w8.setCell ⟨g1, i * 8 + 5, none⟩ (.slice (some ⟨g8, 0, none⟩) (ps.length + 1) k8)).ownsRow w6.heap.size 25 4 (.slice (some ⟨g8, 0, none⟩) (ps.length + 1) k8) (ps.length + 1) (pss ++ [[Value.int .i64 x, Value.int .i64 y, Value.int .i64 x2, Value.int .i64 y2]]).flatten := by
    rw [List.flatten_append, List.flatten_singleton]
    refine ⟨own8.1, .inr ⟨g8, k8, c8, rfl, k1', k3'.far (by show g8 ≠ g1; omega) _, k4', k5', k6', k7'⟩⟩
  have hps : Elems tBox (w8.setCell ⟨g1, i * 8 + 5, none⟩ (.slice (some ⟨g8, 0, none⟩) (ps.length + 1) k8)) w8.heap.size (some ⟨g8, 0, none⟩) (ps ++ [(x, y, x2, y2)]) := by
    refine own_elems (base := w6.heap.size) (e := 25) (n := ps.length + 1) (cap := k8) (css := pss ++ [[Value.int .i64 x, Value.int .i64 y, Value.int .i64 x2, Value.int .i64 y2]]) o8' k2' (by simp [p1]) fun k hk => ?_
    by_cases hlt : k < ps.length
    · rw [List.getElem_append_left (by omega), List.getElem_append_left (by omega)]
      exact tBox.keep hb8 (by omega) (p2 k hlt (by omega))
    · have : k = ps.length := by simp at hk; omega
      subst this
      rw [List.getElem_append_right (by omega), List.getElem_append_right (by omega)]
      simp only [p1, Nat.sub_self, List.getElem_cons_zero]
      exact ⟨[_], _, rfl, ⟨rfl, g1'⟩, [_], _, rfl, ⟨rfl, g2'⟩, [_], _, rfl, ⟨rfl, g3'⟩, rfl, g4'⟩
  refine own_elems (base := base) (e := 51) (n := ls.length) (cap := k1) o9 (by omega) (by simp [f1]) fun k hk => ?_
  by_cases hk2 : i = k
  · subst hk2
    simp only [List.getElem_set_self]
    have hr := f2 i hi (by omega)
    rw [hx] at hr
    obtain ⟨c1, r1, e, ⟨rfl, a1⟩, c2, r2, rfl, ⟨rfl, a2⟩, c3, r3, rfl, rfl, c4, r4, rfl, rfl, c5, r5, rfl, rfl, c6, r6, rfl, ⟨PA, pc, rfl, b1, b2, b3⟩, c7, r7, rfl, rfl, rfl, a3⟩ := hr
    rw [e]
    exact ⟨[_], _, rfl, ⟨rfl, a1⟩, [_], _, rfl, ⟨rfl, a2⟩, [_], _, rfl, rfl, [_], _, rfl, rfl, [_], _, rfl, rfl, [_], _, rfl, ⟨_, k8, by simp, by simpa using k4', k5', hps⟩, [_], _, rfl, rfl, rfl, a3⟩
  · simp only [List.getElem_set_ne hk2]
    exact tLevel.keep hb8 (by omega) (f2 k (by simpa using hk) (by rw [f1]; simpa using hk))
/-- The copied levels, one of them higher. -/
theorem with_height (own1 : w6.ownsRow base 51 8 (.slice (some ⟨g1, 0, none⟩) ls.length k1) ls.length css.flatten) (hg1 : g1 < w6.heap.size) (hg0 : B ≤ g1) (f1 : css.length = ls.length) (f2 : ∀ i (h1 : i < ls.length) (h2 : i < css.length), tLevel.rd w6 B css[i] ls[i])
    (hBw : B ≤ w6.heap.size) (Hx : ls[i]? = some (nm, ht, q1, q2, q3, ps, q4, la)) {h2 : Int} (hf : fits h2) :
    Elems tLevel (w6.setCell ⟨g1, i * 8 + 1, none⟩ (.int .i64 h2)) (w6.setCell ⟨g1, i * 8 + 1, none⟩ (.int .i64 h2)).heap.size (some ⟨g1, 0, none⟩) (ls.set i (nm, h2, q1, q2, q3, ps, q4, la)) := by
  obtain ⟨hi, hx⟩ := List.getElem?_eq_some_iff.1 Hx
  have hn : ∀ c ∈ css, c.length = 8 := fun c hc => by
    obtain ⟨k, hk, rfl⟩ := List.mem_iff_getElem.1 hc
    exact tLevel.len (f2 k (by omega) hk)
  have o9 := own_setc (j := 1) (u := .int .i64 h2) own1 f1 hn (i := i) (by omega) (by decide)
  have hb8 : Below B w6 (w6.setCell ⟨g1, i * 8 + 1, none⟩ (.int .i64 h2)) := (Below.refl _ _).setCell (by show B ≤ g1; exact hg0) _
  have hs : (w6.setCell ⟨g1, i * 8 + 1, none⟩ (.int .i64 h2)).heap.size = w6.heap.size := by simp
  rw [hs]
  refine own_elems (base := base) (e := 51) (n := ls.length) (cap := k1) o9 (by omega) (by simp [f1]) fun k hk => ?_
  by_cases hk2 : i = k
  · subst hk2
    simp only [List.getElem_set_self]
    have hr := f2 i hi (by omega)
    rw [hx] at hr
    obtain ⟨c1, r1, e, ⟨rfl, a1⟩, c2, r2, rfl, ⟨rfl, a2⟩, hr⟩ := hr
    rw [e]
    exact ⟨[_], _, rfl, ⟨rfl, a1⟩, [_], _, rfl, ⟨rfl, hf⟩, (tPair tHead (tPair tHead (tPair tHead (tPair (tSlice tBox) (tPair tHead tInt))))).keep hb8 hBw hr⟩
  · simp only [List.getElem_set_ne hk2]
    exact tLevel.keep hb8 hBw (f2 k (by simpa using hk) (by rw [f1]; simpa using hk))
end Go.Proofs.Ytbphalaajhnnjaa
