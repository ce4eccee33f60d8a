/- A refund of parts, in plain numbers. -/
import Derived.Test.YtggmihnhdojepaaDealBp
import Derived.Test.YtggmihnhdojepaaDealZ
namespace Go.Proofs.Ytggmihnhdojepaa
open Go.RowKit Go.ChangeAt
set_option linter.unusedVariables false
set_option linter.unusedSimpArgs false
attribute [local go_sem] ext_cell ext_frozen lt_ext ext_drew
theorem inc_pos {r1 r2 r3 l T : Int} (hT : 0 < T) (h : T * l = r1 + r2 + r3) (h1 : 0 ≤ r1 ∧ r1 < T) (h2 : 0 ≤ r2 ∧ r2 < T) (h3 : 0 ≤ r3 ∧ r3 < T) (hl : 0 ≤ l ∧ l ≤ 2) :
    (incN (ord3 r1 r2 r3) l 0 = 1 → 0 < r1) ∧ (incN (ord3 r1 r2 r3) l 1 = 1 → 0 < r2) ∧ (incN (ord3 r1 r2 r3) l 2 = 1 → 0 < r3) := by
  have hl3 : l = 0 ∨ l = 1 ∨ l = 2 := by omega
  rcases hl3 with rfl | rfl | rfl
  · refine ⟨fun h => ?_, fun h => ?_, fun h => ?_⟩ <;> (unfold incN at h; rw [if_neg (by omega)] at h; omega)
  · rw [Int.mul_one] at h
    unfold incN ord3
    refine ⟨?_, ?_, ?_⟩ <;> (repeat' split) <;> simp_all <;> omega
  · refine ⟨fun _ => ?_, fun _ => ?_, fun _ => ?_⟩ <;> omega
theorem part_le {n a T i : Int} (hT : 0 < T) (ha : 0 ≤ a) (hn : 0 ≤ n ∧ n ≤ T) (hi : 0 ≤ i ∧ i ≤ 1) (h : i = 1 → 0 < n * a % T) : 0 ≤ n * a / T + i ∧ n * a / T + i ≤ a := by
  have h0 : 0 ≤ n * a := Int.mul_nonneg hn.1 ha
  have h1 : n * a ≤ T * a := Int.mul_le_mul_of_nonneg_right hn.2 ha
  have h2 := Int.mul_ediv_add_emod (n * a) T
  have h3 := Int.emod_nonneg (n * a) (show T ≠ 0 by omega)
  have h4 : 0 ≤ n * a / T := Int.ediv_nonneg h0 (by omega)
  have hi2 : i = 0 ∨ i = 1 := by omega
  rcases hi2 with rfl | rfl
  · refine ⟨by omega, ?_⟩
    have : T * (n * a / T) ≤ T * a := by omega
    have := Int.le_of_mul_le_mul_left this hT
    omega
  · have h5 := h rfl
    have : T * (n * a / T) < T * a := by omega
    have := Int.lt_of_mul_lt_mul_left this (by omega)
    omega
theorem split_in {n a b c : Int} (h : 0 < a + b + c) (ha : 0 ≤ a) (hb : 0 ≤ b) (hc : 0 ≤ c) (hn : 0 ≤ n ∧ n ≤ a + b + c) :
    (0 ≤ (splitP n a b c).1 ∧ (splitP n a b c).1 ≤ a) ∧ (0 ≤ (splitP n a b c).2.1 ∧ (splitP n a b c).2.1 ≤ b) ∧ (0 ≤ (splitP n a b c).2.2 ∧ (splitP n a b c).2.2 ≤ c) := by
  have e := left_rest n a b c h
  have hz : a + b + c ≠ 0 := by omega
  obtain ⟨p1, p2, p3⟩ := inc_pos h e ⟨Int.emod_nonneg _ hz, Int.emod_lt_of_pos _ h⟩ ⟨Int.emod_nonneg _ hz, Int.emod_lt_of_pos _ h⟩ ⟨Int.emod_nonneg _ hz, Int.emod_lt_of_pos _ h⟩ (left_bd n a b c h)
  exact ⟨part_le h ha hn (incN_bd _ _ _) p1, part_le h hb hn (incN_bd _ _ _) p2, part_le h hc hn (incN_bd _ _ _) p3⟩
theorem quo_mono {m n a T : Int} (hT : 0 < T) (ha : 0 ≤ a) (h : m ≤ n) : m * a / T ≤ n * a / T := Int.ediv_le_ediv hT (Int.mul_le_mul_of_nonneg_right h ha)
theorem split_mono {m n a b c : Int} (h : 0 < a + b + c) (ha : 0 ≤ a) (hb : 0 ≤ b) (hc : 0 ≤ c) (hmn : m ≤ n) :
    (splitP m a b c).1 - 1 ≤ (splitP n a b c).1 ∧ (splitP m a b c).2.1 - 1 ≤ (splitP n a b c).2.1 ∧ (splitP m a b c).2.2 - 1 ≤ (splitP n a b c).2.2 := by
  have q1 := quo_mono h ha hmn
  have q2 := quo_mono h hb hmn
  have q3 := quo_mono h hc hmn
  have i1 := incN_bd (ordP m a b c) (leftP m a b c) 0
  have i2 := incN_bd (ordP m a b c) (leftP m a b c) 1
  have i3 := incN_bd (ordP m a b c) (leftP m a b c) 2
  have j1 := incN_bd (ordP n a b c) (leftP n a b c) 0
  have j2 := incN_bd (ordP n a b c) (leftP n a b c) 1
  have j3 := incN_bd (ordP n a b c) (leftP n a b c) 2
  unfold splitP
  simp only
  omega
theorem rem_bd {x D : Int} (hx : 0 ≤ x) (hD : 0 < D ∨ D = -9223372036854775808) : 0 ≤ x.tmod D ∧ x.tmod D ≤ x ∧ (0 < D → x.tmod D < D) := by
  have key : ∀ k : Int, 0 < k → 0 ≤ x.tmod k ∧ x.tmod k ≤ x := fun k hk => by
    have h1 := Int.mul_tdiv_add_tmod x k
    have h2 : 0 ≤ x.tdiv k := Int.tdiv_nonneg hx (by omega)
    have h3 : 0 ≤ k * x.tdiv k := Int.mul_nonneg (by omega) h2
    exact ⟨Int.tmod_nonneg _ hx, by omega⟩
  rcases hD with h | h
  · exact ⟨(key D h).1, (key D h).2, fun _ => Int.tmod_lt_of_pos x h⟩
  · subst h
    rw [Int.tmod_neg]
    exact ⟨(key _ (by decide)).1, (key _ (by decide)).2, fun h => absurd h (by decide)⟩
theorem name_card : nameB cardN = true := by decide +kernel
theorem tot_card {m : Int} (h : 0 ≤ m ∧ m ≤ 1000000000) : totB (cardL m) = true ∧ sumM (cardL m) = m := by
  unfold cardL
  by_cases h0 : m = 0
  · subst h0
    exact ⟨by decide +kernel, rfl⟩
  · rw [if_neg h0]
    refine ⟨?_, by show m + 0 = m; omega⟩
    have h1 : 1 ≤ m := by omega
    simp [totB, okM, badM, hasM, meanB, name_card, h1, h.2]
theorem refund_card {ls : List Ln} {total m : Int} (hr : rightB ls total = true) (h : 0 ≤ m ∧ m ≤ total) : refundE ls total m (cardL m) = 0 := by
  obtain ⟨_, _, h0, h1⟩ := right_out hr
  obtain ⟨t1, t2⟩ := tot_card (m := m) ⟨h.1, by omega⟩
  unfold refundE
  rw [if_pos ⟨hr, h.1, t1⟩, if_pos ⟨h.2, t2⟩]
theorem refund_no {ls : List Ln} {total m : Int} {ms : List Mn} (hr : rightB ls total = false) : refundE ls total m ms = 1 := by
  unfold refundE
  rw [if_neg (by rw [hr]; simp)]
theorem card_len (x : Int) : (cardL x).length ≤ 9223372036854775807 := by unfold cardL; split <;> simp
theorem book_store {V : World} {g : Nat} {A : Option Addr} {L : List Pst} {n c : Nat} (hb : Bk V g #[.int .i64 0, .slice none 0 0] 34) (hE : Elems tPst V V.heap.size A L) :
    Bk ((V.setCell ⟨g, 0, none⟩ (.int .i64 0)).setCell ⟨g, 1, none⟩ (.slice A n c)) g #[.int .i64 0, .slice A n c] 34 ∧ Elems tPst ((V.setCell ⟨g, 0, none⟩ (.int .i64 0)).setCell ⟨g, 1, none⟩ (.slice A n c)) ((V.setCell ⟨g, 0, none⟩ (.int .i64 0)).setCell ⟨g, 1, none⟩ (.slice A n c)).heap.size A L := by
  refine ⟨(hb.set_ 0 _).set_ 1 _, ?_⟩
  have ho : Only (fun x => x = g) V ((V.setCell ⟨g, 0, none⟩ (.int .i64 0)).setCell ⟨g, 1, none⟩ (.slice A n c)) := ((Only.refl (fun x => x = g) V).set_ (p := ⟨g, 0, none⟩) (.inl rfl) _).set_ (p := ⟨g, 1, none⟩) (.inl rfl) _
  have hs : ((V.setCell ⟨g, 0, none⟩ (.int .i64 0)).setCell ⟨g, 1, none⟩ (.slice A n c)).heap.size = V.heap.size := by simp
  rw [hs]
  by_cases h0 : L = []
  · subst h0; exact Elems.nil
  · have hl : 0 < L.length := List.length_pos_iff.2 h0
    obtain ⟨b, off, kd, nm, a, rfl, hbl, _, y0, y1, _⟩ := pick_pst hE hl
    refine hE.only flat_pst ho (Nat.le_refl _) (fun g' off' he hg => ?_)
    simp only [Option.some.injEq, Addr.mk.injEq] at he
    obtain ⟨rfl, rfl, _⟩ := he
    subst hg
    rw [hb.cell] at y0 y1
    have ho3 : off = 0 ∨ off = 1 ∨ 2 ≤ off := by omega
    rcases ho3 with rfl | rfl | h
    · simp at y1
    · simp at y0
    · rw [Array.getElem?_eq_none (by simp; omega)] at y0; cases y0
/-- A variable of the call's own that holds a booking. -/
def Made (Y : World) (L : List Pst) (r : Int) (p e : Value) (X : World) : Prop := ∃ g A c, p = .pointer (some ⟨g, 0, none⟩) ∧ e = .int .i64 r ∧ Y.heap.size ≤ g ∧ Bk X g #[.int .i64 0, .slice A L.length c] 34 ∧ Elems tPst X X.heap.size A L ∧ Below Y.heap.size Y X
theorem made_new {Y V : World} {A : Option Addr} {L : List Pst} {c : Nat} {r : Int} (hV : Below Y.heap.size Y V) (hE : Elems tPst V V.heap.size A L) : Made Y L r (.pointer (some ⟨V.heap.size, 0, none⟩)) (.int .i64 r) (V.alloc (.cells #[.int .i64 0, .slice A L.length c] 34)) :=
  ⟨_, _, _, rfl, rfl, hV.size, Bk.new _ _ _, hE.keep (below_self _ _) (by simp), Below.alloc0 hV _⟩
theorem made_set {Y V : World} {g : Nat} {A : Option Addr} {L : List Pst} {c : Nat} {r : Int} (hV : Below Y.heap.size Y V) (hg : Y.heap.size ≤ g) (hb : Bk V g #[.int .i64 0, .slice none 0 0] 34) (hE : Elems tPst V V.heap.size A L) : Made Y L r (.pointer (some ⟨g, 0, none⟩)) (.int .i64 r) ((V.setCell ⟨g, 0, none⟩ (.int .i64 0)).setCell ⟨g, 1, none⟩ (.slice A L.length c)) := by
  have h := book_store (n := L.length) (c := c) hb hE
  exact ⟨g, A, c, rfl, rfl, hg, h.1, h.2, (hV.setCell (hp := hg) _).setCell (hp := hg) _⟩
def lessP (ls : List Ln) (total m : Int) : Int × Int × Int := if total = 0 then (0, 0, 0) else splitP m (partOf 1 ls) (partOf 2 ls) (partOf 3 ls)
theorem refund_to {ls : List Ln} {total m : Int} {ms : List Mn} (h : refundE ls total m ms = 0) :
    toP (refundL ls total m ms) 2 noName = -(lessP ls total m).1 ∧ toP (refundL ls total m ms) 1 noName = -(lessP ls total m).2.1 ∧ toP (refundL ls total m ms) 3 noName = -(lessP ls total m).2.2 := by
  unfold refundL lessP
  rw [if_pos h]
  by_cases h0 : total = 0
  · rw [if_pos h0, if_pos h0]
    refine ⟨?_, ?_, ?_⟩ <;> rw [toP_app, toP_pay_other _ _ _ _ (by decide)] <;> rfl
  · rw [if_neg h0, if_neg h0]
    unfold backL
    refine ⟨?_, ?_, ?_⟩ <;> rw [toP_app, toP_pay_other _ _ _ _ (by decide), toP_parts] <;> simp
theorem less_in {ls : List Ln} {total m : Int} (hr : rightB ls total = true) (h : 0 ≤ m ∧ m ≤ total) :
    (0 ≤ (lessP ls total m).1 ∧ (lessP ls total m).1 ≤ partOf 1 ls) ∧ (0 ≤ (lessP ls total m).2.1 ∧ (lessP ls total m).2.1 ≤ partOf 2 ls) ∧ (0 ≤ (lessP ls total m).2.2 ∧ (lessP ls total m).2.2 ≤ partOf 3 ls) := by
  obtain ⟨hall, hsum, ht0, ht1⟩ := right_out hr
  have b1 := partOf_bd 1 ls hall
  have b2 := partOf_bd 2 ls hall
  have b3 := partOf_bd 3 ls hall
  have hp := parts_sum ls hall
  unfold lessP
  by_cases h0 : total = 0
  · rw [if_pos h0]; exact ⟨⟨Int.le_refl _, b1.1⟩, ⟨Int.le_refl _, b2.1⟩, ⟨Int.le_refl _, b3.1⟩⟩
  · rw [if_neg h0]
    exact split_in (by omega) b1.1 b2.1 b3.1 ⟨h.1, by omega⟩
theorem less_mono {ls : List Ln} {total m n : Int} (hr : rightB ls total = true) (h : m ≤ n) :
    (lessP ls total m).1 - 1 ≤ (lessP ls total n).1 ∧ (lessP ls total m).2.1 - 1 ≤ (lessP ls total n).2.1 ∧ (lessP ls total m).2.2 - 1 ≤ (lessP ls total n).2.2 := by
  obtain ⟨hall, hsum, ht0, ht1⟩ := right_out hr
  have b1 := partOf_bd 1 ls hall
  have b2 := partOf_bd 2 ls hall
  have b3 := partOf_bd 3 ls hall
  have hp := parts_sum ls hall
  unfold lessP
  by_cases h0 : total = 0
  · rw [if_pos h0, if_pos h0]; simp only; omega
  · rw [if_neg h0, if_neg h0]
    exact split_mono (by omega) b1.1 b2.1 b3.1 h
end Go.Proofs.Ytggmihnhdojepaa
