/- The law's example: the walk of w09Titles. -/
import Derived.Test.YtojkpoikamcgkaaDoorOwnTi
namespace Go.Proofs.YtojkpoikamcgkaaDoor
open Go.RowKit Go.Shelf
set_option linter.unusedVariables false
set_option linter.unusedSimpArgs false
attribute [local go_sem] ext_cell ext_frozen lt_ext ext_drew

theorem elems_three {w : World} {g : Nat} {a b c : ByteArray} (h : Bk w g #[.string a, .string b, .string c] 9) (ha : a.size ≤ maxLen) (hb : b.size ≤ maxLen) (hc : c.size ≤ maxLen) : Elems tStr w w.heap.size (some ⟨g, 0, none⟩) [a, b, c] :=
  (ownS_three (base := 0) h (Nat.zero_le _) ha hb hc).elems (Nat.zero_le _) (Nat.le_refl _)
theorem size_one (x : UInt8) : (⟨#[x]⟩ : ByteArray).size ≤ 1000 := by show (1 : Nat) ≤ 1000; decide
theorem size_max (x : UInt8) : (⟨#[x]⟩ : ByteArray).size ≤ maxLen := Nat.le_trans (size_one x) (by unfold maxLen; omega)
theorem passed3 (g : Nat) (w : World) (h : Bk w g #[.string ⟨#[97]⟩, .string ⟨#[98]⟩, .string ⟨#[99]⟩] 9) (ht : Tabs w) :
    Calls Tryd.prog 12 #[.int .i64 10001, .slice (some ⟨g, 0, none⟩) 3 3] w fun e w' => ∃ A' c', e = .returned (.agg #[.int .i64 10001, .int .i64 0, .int .i64 3, .string K0T, .slice A' 2 c']) ∧
      Elems tTr w' w'.heap.size A' (chT 10001 0 [sA, sB, sC] 2) ∧ 2 ≤ c' ∧ c' ≤ maxLen ∧ Below w.heap.size w w' :=
  passed_any (some ⟨g, 0, none⟩) [sA, sB, sC] 3 3 rfl w w.heap.size (elems_three h (size_max _) (size_max _) (size_max _)) (Nat.le_refl _) (by decide) (by decide)
    (fun s hs => by
      simp only [List.mem_cons, List.not_mem_nil, or_false] at hs
      rcases hs with rfl | rfl | rfl <;> exact size_one _) apart3 ht
theorem passedB (g : Nat) (w : World) (h : Bk w g #[.string ⟨#[97]⟩, .string ⟨#[98]⟩] 9) (ht : Tabs w) :
    Calls Tryd.prog 12 #[.int .i64 10001, .slice (some ⟨g, 0, none⟩) 2 2] w fun e w' => ∃ A' c', e = .returned (.agg #[.int .i64 10001, .int .i64 0, .int .i64 3, .string K0T, .slice A' 1 c']) ∧
      Elems tTr w' w'.heap.size A' (chT 10001 0 [sA, sB] 1) ∧ 1 ≤ c' ∧ c' ≤ maxLen ∧ Below w.heap.size w w' :=
  passed_any (some ⟨g, 0, none⟩) [sA, sB] 2 2 rfl w w.heap.size (elems_two h (size_max _) (size_max _)) (Nat.le_refl _) (by decide) (by decide)
    (fun s hs => by
      simp only [List.mem_cons, List.not_mem_nil, or_false] at hs
      rcases hs with rfl | rfl <;> exact size_one _) apartB ht
theorem passedD (g : Nat) (w : World) (h : Bk w g #[.string ⟨#[97]⟩, .string ⟨#[100]⟩] 9) (ht : Tabs w) :
    Calls Tryd.prog 12 #[.int .i64 10001, .slice (some ⟨g, 0, none⟩) 2 2] w fun e w' => ∃ A' c', e = .returned (.agg #[.int .i64 10001, .int .i64 0, .int .i64 3, .string K0T, .slice A' 1 c']) ∧
      Elems tTr w' w'.heap.size A' (chT 10001 0 [sA, sD] 1) ∧ 1 ≤ c' ∧ c' ≤ maxLen ∧ Below w.heap.size w w' :=
  passed_any (some ⟨g, 0, none⟩) [sA, sD] 2 2 rfl w w.heap.size (elems_two h (size_max _) (size_max _)) (Nat.le_refl _) (by decide) (by decide)
    (fun s hs => by
      simp only [List.mem_cons, List.not_mem_nil, or_false] at hs
      rcases hs with rfl | rfl <;> exact size_one _) apartD ht
theorem validT (ss : List ByteArray) (hs : keyT ss 0 = K0T) (n k : Nat) (hk : k < n) (hn : n ≤ 40) (ha : ApartT ss n) (A : Option Addr) (c : Nat) (X : World) (B : Nat) (h : Elems tTr X B A (chT 10001 0 ss k)) (hB : B ≤ X.heap.size) (h1 : k ≤ c) (h2 : c ≤ maxLen) (ht : Tabs X) :
    Calls Tryd.prog 7 #[.agg #[.int .i64 10001, .int .i64 0, .int .i64 3, .string K0T, .slice A k c]] X fun e w' => e = .returned (.bool true) ∧ Below X.heap.size X w' := by
  have q := valid_any 10001 0 3 (keyT ss 0) A (chT 10001 0 ss k) c X B h hB (by rw [chT_len]; exact h1) h2 (chT_small _ _ _ _) (by omega) (by omega) (by omega) (by omega) (by omega) (by omega) ht
  rw [chT_valid ha (headB_10001 _ (keyT_is ss 0)) k hk (by omega), chT_len, hs] at q
  exact q
set_option maxRecDepth 100000 in
set_option maxHeartbeats 4000000 in
theorem titles_any (w : World) (ht : Tabs w) : Calls Tryd.prog 4 #[] w fun e w' => e = .returned (.bool true) ∧ Below w.heap.size w w' := by
  have HT := Lib.hid ht
  clear ht
  go_enter Tryd.func4, Tryd.ntmps4
  go_upto_region 2 with (go_at_call 12; refine Calls.mono (passed3 _ _ (Bk.new _ _ _) (HT.out.below (below_self w _))) ?_; rintro e w1 ⟨A1, c1, rfl, h1, h2, h3, hbb⟩; have H1 := Lib.hid (And.intro h1 hbb); clear h1 hbb)
  have e1 : Below w.heap.size w w1 := (below_self w _).trans (H1.out.2.mono (by simp))
  refine forget (fun X => Below w.heap.size w X ∧ Bk X w1.heap.size #[.int .i64 10001, .int .i64 0, .int .i64 3, .string K0T, .slice A1 2 c1] 24 ∧ Elems tTr X X.heap.size A1 (chT 10001 0 [sA, sB, sC] 2)) ⟨e1.trans ((below_self w1 _).mono e1.size), Bk.new _ _ _, H1.out.1.keep (below_self w1 _) (by simp)⟩ ?_
  generalize w1.heap.size = G1 at *
  clear H1 e1
  rintro X ⟨x1, x2, x3⟩
  have HX := Lib.hid (And.intro x1 (And.intro x2 x3))
  clear x1 x2 x3
  go_upto_region 3 with (go_at_call 12; refine Calls.mono (passedD _ _ (Bk.new _ _ _) (HT.out.below (HX.out.1.trans ((below_self X _).mono HX.out.1.size)))) ?_; rintro e w2 ⟨A2, c2, rfl, h1, h4, h5, hbb⟩; have H2 := Lib.hid (And.intro h1 hbb); clear h1 hbb)
  have e1 : Below X.heap.size X w2 := (below_self X _).trans (H2.out.2.mono (by simp))
  have e2 : Below X.heap.size X (w2.alloc (.cells #[.int .i64 10001, .int .i64 0, .int .i64 3, .string K0T, .slice A2 1 c2] 24)) := e1.trans ((below_self w2 _).mono e1.size)
  refine forget (fun Y => Below X.heap.size X Y ∧ Bk Y w2.heap.size #[.int .i64 10001, .int .i64 0, .int .i64 3, .string K0T, .slice A2 1 c2] 24 ∧ Elems tTr Y Y.heap.size A2 (chT 10001 0 [sA, sD] 1)) ⟨e2, Bk.new _ _ _, H2.out.1.keep (below_self w2 _) (by simp)⟩ ?_
  generalize w2.heap.size = G2 at *
  clear H2 e1 e2
  rintro Y ⟨y1, y2, y3⟩
  have HY := Lib.hid (And.intro (HX.out.1.trans (y1.mono HX.out.1.size)) (And.intro y2 (And.intro y3 (And.intro (HX.out.2.1.below y1) (HX.out.2.2.keep y1 y1.size)))))
  clear y1 y2 y3 HX
  go_upto_region 4 with (go_at_call 12; refine Calls.mono (passedB _ _ (Bk.new _ _ _) (HT.out.below (HY.out.1.trans ((below_self Y _).mono HY.out.1.size)))) ?_; rintro e w3 ⟨A3, c3, rfl, h1, h6, h7, hbb⟩; have H3 := Lib.hid (And.intro h1 hbb); clear h1 hbb)
  have e1 : Below Y.heap.size Y w3 := (below_self Y _).trans (H3.out.2.mono (by simp))
  have e2 : Below Y.heap.size Y (w3.alloc (.cells #[.int .i64 10001, .int .i64 0, .int .i64 3, .string K0T, .slice A3 1 c3] 24)) := e1.trans ((below_self w3 _).mono e1.size)
  refine forget (fun Z => Below Y.heap.size Y Z ∧ Bk Z w3.heap.size #[.int .i64 10001, .int .i64 0, .int .i64 3, .string K0T, .slice A3 1 c3] 24 ∧ Elems tTr Z Z.heap.size A3 (chT 10001 0 [sA, sB] 1)) ⟨e2, Bk.new _ _ _, H3.out.1.keep (below_self w3 _) (by simp)⟩ ?_
  generalize w3.heap.size = G3 at *
  clear H3 e1 e2
  rintro V ⟨v1, v2, v3⟩
  have i1 := HY.out.2.2.2.1.below v1
  have i2 := HY.out.2.1.below v1
  have k1 := HY.out.2.2.2.2.keep v1 v1.size
  have k2 := HY.out.2.2.1.keep v1 v1.size
  have kw := HY.out.1.trans (v1.mono HY.out.1.size)
  have a0 := i1.cell 0
  have a1 := i1.cell 1
  have a2 := i1.cell 2
  have a3 := i1.cell 3
  have a4 := i1.cell 4
  have la := i1.lt
  have b0 := i2.cell 0
  have b1 := i2.cell 1
  have b2 := i2.cell 2
  have b3 := i2.cell 3
  have b4 := i2.cell 4
  have lb := i2.lt
  have d0 := v2.cell 0
  have d1 := v2.cell 1
  have d2 := v2.cell 2
  have d3 := v2.cell 3
  have d4 := v2.cell 4
  have ld := v2.lt
  have cT := validT [sA, sB, sC] rfl 3 2 (by decide) (by decide) apart3 A1 c1 V V.heap.size k1 (Nat.le_refl _) h2 h3 (HT.out.below kw)
  have cU := fun (u : World) => validT [sA, sD] rfl 2 1 (by decide) (by decide) apartD A2 c2 (ext V u) V.heap.size (k2.keep (below_ext V u) (Nat.le_refl _)) (below_ext V u).size h4 h5 (HT.out.below (kw.trans ((below_ext V u).mono kw.size)))
  have cE := fun (u : World) => extends_any 10001 0 3 3 K0T 2 1 A1 A3 (chT 10001 0 [sA, sB, sC] 2) (chT 10001 0 [sA, sB] 1) c1 c3 (ext V u) V.heap.size (k1.keep (below_ext V u) (Nat.le_refl _)) (v3.keep (below_ext V u) (Nat.le_refl _)) (below_ext V u).size (chT_len _ _ _ _) (chT_len _ _ _ _) (by decide) (by decide) h2 h3 (chT_sig _ _ _ _) (chT_sig _ _ _ _) (by omega) (by omega) (by omega) (by omega) (HT.out.below (kw.trans ((below_ext V u).mono kw.size)))
  have cF := fun (u : World) => extends_any 10001 0 3 3 K0T 2 1 A1 A2 (chT 10001 0 [sA, sB, sC] 2) (chT 10001 0 [sA, sD] 1) c1 c2 (ext V u) V.heap.size (k1.keep (below_ext V u) (Nat.le_refl _)) (k2.keep (below_ext V u) (Nat.le_refl _)) (below_ext V u).size (chT_len _ _ _ _) (chT_len _ _ _ _) (by decide) (by decide) h2 h3 (chT_sig _ _ _ _) (chT_sig _ _ _ _) (by omega) (by omega) (by omega) (by omega) (HT.out.below (kw.trans ((below_ext V u).mono kw.size)))
  have cK := fun (u : World) => fork_any 10001 0 3 K0T 2 1 A1 A2 (chT 10001 0 [sA, sB, sC] 2) (chT 10001 0 [sA, sD] 1) c1 c2 (ext V u) V.heap.size (k1.keep (below_ext V u) (Nat.le_refl _)) (k2.keep (below_ext V u) (Nat.le_refl _)) (below_ext V u).size (chT_len _ _ _ _) (chT_len _ _ _ _) (by decide) (by decide) h2 h3 (chT_small 10001 0 [sA, sB, sC] 2) (chT_small 10001 0 [sA, sD] 1) (by omega) (by omega) (by omega) (by omega)
    (nextT 10001 0 K0T [] (mkB (publicL sB)) sA) (nextT 10001 0 K0T [] (mkB (publicL sD)) sA) rfl rfl key_ne (first_right _) (first_right _) m_bd (HT.out.below (kw.trans ((below_ext V u).mono kw.size)))
  rw [same_short] at cE
  rw [same_fork] at cF
  have HC := Lib.hid (And.intro cT (And.intro cU (And.intro cE (And.intro cF (And.intro cK (fun u => kw.trans ((below_ext V u).mono kw.size)))))))
  clear cT cU cE cF cK k1 k2 v3 i1 i2 v1 v2 HY kw
  go_wp2_with (first
    | (go_at_call 7; (with_reducible refine Calls.mono HC.out.1 ?_); rintro e w' ⟨rfl, hbb⟩; obtain ⟨u, rfl⟩ := ext_of hbb; clear hbb)
    | (go_at_call 7; (with_reducible refine Calls.mono (HC.out.2.1 _) ?_); rintro e w' ⟨rfl, hbb⟩; obtain ⟨u, rfl⟩ := ext_more hbb; clear hbb)
    | (go_at_call 13; (with_reducible refine Calls.mono (HC.out.2.2.1 _) ?_); rintro e w' ⟨rfl, hbb⟩; obtain ⟨u, rfl⟩ := ext_more hbb; clear hbb)
    | (go_at_call 13; (with_reducible refine Calls.mono (HC.out.2.2.2.1 _) ?_); rintro e w' ⟨rfl, hbb⟩; obtain ⟨u, rfl⟩ := ext_more hbb; clear hbb)
    | (go_at_call 14; (with_reducible refine Calls.mono (HC.out.2.2.2.2.1 _) ?_); rintro e w' ⟨rfl, hbb⟩; obtain ⟨u, rfl⟩ := ext_more hbb; clear hbb))
  go_ret
  exact ⟨rfl, HC.out.2.2.2.2.2 _⟩
end Go.Proofs.YtojkpoikamcgkaaDoor
