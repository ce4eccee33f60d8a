/- Layer 12 (resolve), the reference: the attribute and the number of a test. -/
import Derived.Test.YtecjhniomjmocaaResRb
namespace Go.Proofs.Ytecjhniomjmocaa
open Go.RowKit Go.ChangeAt
set_option linter.unusedVariables false
set_option linter.unusedSimpArgs false
attribute [local go_sem] ext_cell ext_frozen lt_ext ext_drew

theorem idxI_some {s : ByteArray} {l : List ByteArray} {n : Nat} (h : idxB s l = some n) : idxI s l = n := by unfold idxI; rw [h]; rfl
theorem idxI_none {s : ByteArray} {l : List ByteArray} (h : idxB s l = none) : idxI s l = -1 := by unfold idxI; rw [h]; rfl
theorem tableN_len {L : Nm} {a : Nat} (h1 : L.1.length ≤ 1000000) (h2 : L.2.length ≤ 1000000) : (tableN L a).length ≤ 1000000 := by
  unfold tableN
  split
  · exact h1
  · split
    · exact h2
    · decide
theorem num_at (hn : ByteArray) (x y : Int) (AH : Option Addr) (lh : List Le) (ch a : Nat) (z : Int) (hz : (a : Int) = z) (nm : ByteArray) (w : World) (B : Nat) (h : Elems tLe w B AH lh) (hB : B ≤ w.heap.size) (hm1 : lh.length ≤ 10) (hm2 : ∀ l ∈ lh, l.2.2.1.length + l.2.2.2.1.length ≤ 50) :
    Calls Try.prog 46 #[.agg #[.string hn, .int .i64 x, .int .i64 y, .slice AH lh.length ch], .int .i64 z, .string nm] w fun e w' => e = .returned (.int .i64 (idxI nm (tableN (lvlsN lh, blksN lh) a))) ∧ Below w.heap.size w w' := by
  subst hz
  exact num_any hn x y AH lh ch a nm w B h hB hm1 hm2
def testE (L : Nm) (t : Ts) : Ending := .returned (.tuple #[.int .i64 (numP L t).2.1, .int .i64 (numP L t).2.2, .int .i64 (numP L t).1])
theorem testE_is {L : Nm} {t : Ts} {e : Int} {a : Nat} {n : Int} (h : numP L t = (e, a, n)) : testE L t = .returned (.tuple #[.int .i64 a, .int .i64 n, .int .i64 e]) := by unfold testE; rw [h]
set_option maxRecDepth 100000 in
set_option maxHeartbeats 8000000 in
theorem rtest_any (nm : ByteArray) (op : Int) (nn : ByteArray) (n att : Int) (hn : ByteArray) (x y : Int) (AH : Option Addr) (lh : List Le) (ch : Nat) (w : World) (B : Nat) (h : Elems tLe w B AH lh) (hB : B ≤ w.heap.size) (hm1 : lh.length ≤ 10) (hm2 : ∀ l ∈ lh, l.2.2.1.length + l.2.2.2.1.length ≤ 50) (L : Nm) (hL : (lvlsN lh, blksN lh) = L) (h1 : L.1.length ≤ 1000000) (h2 : L.2.length ≤ 1000000) :
    Calls Try.prog 39 #[.agg #[.string nm, .int .i64 op, .string nn, .int .i64 n, .int .i64 att], .agg #[.string hn, .int .i64 x, .int .i64 y, .slice AH lh.length ch]] w fun e w' => e = testE L (nm, op, nn, n, att) ∧ Below w.heap.size w w' := by
  have hE : ∀ X, Below w.heap.size w X → Elems tLe X B AH lh := fun X hX => h.keep (hX.mono hB) (Nat.le_refl _)
  have HH := Lib.hid (And.intro hE (And.intro hm2 hL))
  clear h hm2 hE hL
  cases hi : idxB nm attrsN with
  | none =>
    rw [testE_is (L := L) (t := (nm, op, nn, n, att)) (e := 8) (a := 0) (n := 0) (by unfold numP; rw [hi])]
    have HI := Lib.hid (idxI_none hi)
    clear hi
    go_enter Try.func39, Try.ntmps39
    go_wp2_with (go_at_call 45; refine (attr_any _ _).mono ?_; rw [HI.out]; rintro e w1 ⟨rfl, hb⟩; (first | (obtain ⟨u, rfl⟩ := ext_more hb; clear hb) | (obtain ⟨u, rfl⟩ := ext_more_alloc hb; clear hb) | (obtain ⟨u, rfl⟩ := ext_of hb; clear hb)))
    refine bodyPost_ret (v := .tuple #[.int .i64 0, .int .i64 0, .int .i64 8]) (by simp [results, Try.results39, go_sem]) rfl ⟨rfl, by (repeat (first | with_reducible exact Below.refl _ _ | with_reducible assumption | with_reducible refine Below.alloc0 ?_ _ | with_reducible refine Below.ext0 ?_ _ | with_reducible refine Below.drew ?_ | with_reducible refine below_drewN ?_ _ | (with_reducible refine Below.setCell (hp := ?hp) ?_ _; case hp => (first | (simp; done) | (simp; omega)))))⟩
  | some a =>
    have ha10 : a < 10 := idxB_lt hi
    have HI := Lib.hid (idxI_some hi)
    have hnum : numP L (nm, op, nn, n, att) = if op < 1 ∨ 6 < op ∨ (nn ≠ noName ∧ ¬ (a = 4 ∨ a = 5 ∨ a = 6)) then ((10, 0, 0) : Int × Nat × Int)
      else match (if nn = noName then some n else (idxB nn (tableN L a)).map fun (n : Nat) => (n : Int)) with
        | none => (8, 0, 0)
        | some n => if n < 0 ∨ 1000000000 < n then (2, 0, 0) else (0, a, n) := by unfold numP; rw [hi]; first | rfl | done
    have ha0 : (0 : Int) ≤ (a : Int) := by omega
    have hatt : ¬ (a : Int) < 0 := by omega
    clear hi
    by_cases a4 : a = 4
    · subst a4
      by_cases q1 : op < 1
      · rw [testE_is (hnum.trans (if_pos (.inl q1)))]
        clear hnum
        go_enter Try.func39, Try.ntmps39
        go_wp2_with (go_at_call 45; refine (attr_any _ _).mono ?_; rw [HI.out]; rintro e w1 ⟨rfl, hb⟩; (first | (obtain ⟨u, rfl⟩ := ext_more hb; clear hb) | (obtain ⟨u, rfl⟩ := ext_more_alloc hb; clear hb) | (obtain ⟨u, rfl⟩ := ext_of hb; clear hb)))
        refine bodyPost_ret (v := .tuple #[.int .i64 0, .int .i64 0, .int .i64 10]) (by simp [results, Try.results39, go_sem]) rfl ⟨rfl, by (repeat (first | with_reducible exact Below.refl _ _ | with_reducible assumption | with_reducible refine Below.alloc0 ?_ _ | with_reducible refine Below.ext0 ?_ _ | with_reducible refine Below.drew ?_ | with_reducible refine below_drewN ?_ _ | (with_reducible refine Below.setCell (hp := ?hp) ?_ _; case hp => (first | (simp; done) | (simp; omega)))))⟩
      by_cases q2 : 6 < op
      · rw [testE_is (hnum.trans (if_pos (.inr (.inl q2))))]
        clear hnum
        go_enter Try.func39, Try.ntmps39
        go_wp2_with (go_at_call 45; refine (attr_any _ _).mono ?_; rw [HI.out]; rintro e w1 ⟨rfl, hb⟩; (first | (obtain ⟨u, rfl⟩ := ext_more hb; clear hb) | (obtain ⟨u, rfl⟩ := ext_more_alloc hb; clear hb) | (obtain ⟨u, rfl⟩ := ext_of hb; clear hb)))
        refine bodyPost_ret (v := .tuple #[.int .i64 0, .int .i64 0, .int .i64 10]) (by simp [results, Try.results39, go_sem]) rfl ⟨rfl, by (repeat (first | with_reducible exact Below.refl _ _ | with_reducible assumption | with_reducible refine Below.alloc0 ?_ _ | with_reducible refine Below.ext0 ?_ _ | with_reducible refine Below.drew ?_ | with_reducible refine below_drewN ?_ _ | (with_reducible refine Below.setCell (hp := ?hp) ?_ _; case hp => (first | (simp; done) | (simp; omega)))))⟩
      by_cases q3 : nn = noName
      · subst q3
        have qe := empty_of
        rw [if_neg (by simp; omega), if_pos rfl] at hnum
        simp only at hnum
        by_cases q5 : n < 0
        · rw [testE_is (hnum.trans (if_pos (.inl q5)))]
          clear hnum
          go_enter Try.func39, Try.ntmps39
          go_wp2_with (go_at_call 45; refine (attr_any _ _).mono ?_; rw [HI.out]; rintro e w1 ⟨rfl, hb⟩; (first | (obtain ⟨u, rfl⟩ := ext_more hb; clear hb) | (obtain ⟨u, rfl⟩ := ext_more_alloc hb; clear hb) | (obtain ⟨u, rfl⟩ := ext_of hb; clear hb)))
          refine bodyPost_ret (v := .tuple #[.int .i64 0, .int .i64 0, .int .i64 2]) (by simp [results, Try.results39, go_sem]) rfl ⟨rfl, by (repeat (first | with_reducible exact Below.refl _ _ | with_reducible assumption | with_reducible refine Below.alloc0 ?_ _ | with_reducible refine Below.ext0 ?_ _ | with_reducible refine Below.drew ?_ | with_reducible refine below_drewN ?_ _ | (with_reducible refine Below.setCell (hp := ?hp) ?_ _; case hp => (first | (simp; done) | (simp; omega)))))⟩
        by_cases q6 : 1000000000 < n
        · rw [testE_is (hnum.trans (if_pos (.inr q6)))]
          clear hnum
          go_enter Try.func39, Try.ntmps39
          go_wp2_with (go_at_call 45; refine (attr_any _ _).mono ?_; rw [HI.out]; rintro e w1 ⟨rfl, hb⟩; (first | (obtain ⟨u, rfl⟩ := ext_more hb; clear hb) | (obtain ⟨u, rfl⟩ := ext_more_alloc hb; clear hb) | (obtain ⟨u, rfl⟩ := ext_of hb; clear hb)))
          refine bodyPost_ret (v := .tuple #[.int .i64 0, .int .i64 0, .int .i64 2]) (by simp [results, Try.results39, go_sem]) rfl ⟨rfl, by (repeat (first | with_reducible exact Below.refl _ _ | with_reducible assumption | with_reducible refine Below.alloc0 ?_ _ | with_reducible refine Below.ext0 ?_ _ | with_reducible refine Below.drew ?_ | with_reducible refine below_drewN ?_ _ | (with_reducible refine Below.setCell (hp := ?hp) ?_ _; case hp => (first | (simp; done) | (simp; omega)))))⟩
        rw [testE_is (hnum.trans (if_neg (by omega)))]
        clear hnum
        go_enter Try.func39, Try.ntmps39
        go_wp2_with (go_at_call 45; refine (attr_any _ _).mono ?_; rw [HI.out]; rintro e w1 ⟨rfl, hb⟩; (first | (obtain ⟨u, rfl⟩ := ext_more hb; clear hb) | (obtain ⟨u, rfl⟩ := ext_more_alloc hb; clear hb) | (obtain ⟨u, rfl⟩ := ext_of hb; clear hb)))
        refine bodyPost_ret (v := .tuple #[.int .i64 4, .int .i64 n, .int .i64 0]) (by simp [results, Try.results39, go_sem]) rfl ⟨rfl, by (repeat (first | with_reducible exact Below.refl _ _ | with_reducible assumption | with_reducible refine Below.alloc0 ?_ _ | with_reducible refine Below.ext0 ?_ _ | with_reducible refine Below.drew ?_ | with_reducible refine below_drewN ?_ _ | (with_reducible refine Below.setCell (hp := ?hp) ?_ _; case hp => (first | (simp; done) | (simp; omega)))))⟩
      have qe := full_of q3
      rw [if_neg (by omega), if_neg q3] at hnum
      cases hj : idxB nn (tableN L 4) with
      | none =>
        rw [hj] at hnum
        rw [testE_is hnum]
        have HJ := Lib.hid (idxI_none hj)
        clear hnum hj q3
        go_enter Try.func39, Try.ntmps39
        go_wp2_with (first
          | (go_at_call 45; refine (attr_any _ _).mono ?_; rw [HI.out]; rintro e w1 ⟨rfl, hb⟩; (first | (obtain ⟨u, rfl⟩ := ext_more hb; clear hb) | (obtain ⟨u, rfl⟩ := ext_more_alloc hb; clear hb) | (obtain ⟨u, rfl⟩ := ext_of hb; clear hb)))
          | (go_at_call 46; refine (num_at hn x y AH lh ch 4 4 rfl nn _ B (HH.out.1 _ (by (repeat (first | with_reducible exact Below.refl _ _ | with_reducible assumption | with_reducible refine Below.alloc0 ?_ _ | with_reducible refine Below.ext0 ?_ _ | with_reducible refine Below.drew ?_ | with_reducible refine below_drewN ?_ _ | (with_reducible refine Below.setCell (hp := ?hp) ?_ _; case hp => (first | (simp; done) | (simp; omega))))))) (Nat.le_trans hB (Below.size (show Below w.heap.size w _ by (repeat (first | with_reducible exact Below.refl _ _ | with_reducible assumption | with_reducible refine Below.alloc0 ?_ _ | with_reducible refine Below.ext0 ?_ _ | with_reducible refine Below.drew ?_ | with_reducible refine below_drewN ?_ _ | (with_reducible refine Below.setCell (hp := ?hp) ?_ _; case hp => (first | (simp; done) | (simp; omega)))))))) hm1 HH.out.2.1).mono ?_; rw [HH.out.2.2, HJ.out]; rintro e w2 ⟨rfl, hb⟩; (first | (obtain ⟨u, rfl⟩ := ext_more hb; clear hb) | (obtain ⟨u, rfl⟩ := ext_more_alloc hb; clear hb) | (obtain ⟨u, rfl⟩ := ext_of hb; clear hb))))
        refine bodyPost_ret (v := .tuple #[.int .i64 0, .int .i64 0, .int .i64 8]) (by simp [results, Try.results39, go_sem]) rfl ⟨rfl, by (repeat (first | with_reducible exact Below.refl _ _ | with_reducible assumption | with_reducible refine Below.alloc0 ?_ _ | with_reducible refine Below.ext0 ?_ _ | with_reducible refine Below.drew ?_ | with_reducible refine below_drewN ?_ _ | (with_reducible refine Below.setCell (hp := ?hp) ?_ _; case hp => (first | (simp; done) | (simp; omega)))))⟩
      | some m =>
        have hm6 : m < 1000000 := by have := idxB_lt hj; have := tableN_len (L := L) (a := 4) h1 h2; omega
        rw [hj] at hnum
        simp only [Option.map_some] at hnum
        rw [if_neg (by omega)] at hnum
        rw [testE_is hnum]
        have HJ := Lib.hid (idxI_some hj)
        have m1 : ¬ (m : Int) < 0 := by omega
        have m2 : ¬ 1000000000 < (m : Int) := by omega
        clear hnum hj q3
        go_enter Try.func39, Try.ntmps39
        go_wp2_with (first
          | (go_at_call 45; refine (attr_any _ _).mono ?_; rw [HI.out]; rintro e w1 ⟨rfl, hb⟩; (first | (obtain ⟨u, rfl⟩ := ext_more hb; clear hb) | (obtain ⟨u, rfl⟩ := ext_more_alloc hb; clear hb) | (obtain ⟨u, rfl⟩ := ext_of hb; clear hb)))
          | (go_at_call 46; refine (num_at hn x y AH lh ch 4 4 rfl nn _ B (HH.out.1 _ (by (repeat (first | with_reducible exact Below.refl _ _ | with_reducible assumption | with_reducible refine Below.alloc0 ?_ _ | with_reducible refine Below.ext0 ?_ _ | with_reducible refine Below.drew ?_ | with_reducible refine below_drewN ?_ _ | (with_reducible refine Below.setCell (hp := ?hp) ?_ _; case hp => (first | (simp; done) | (simp; omega))))))) (Nat.le_trans hB (Below.size (show Below w.heap.size w _ by (repeat (first | with_reducible exact Below.refl _ _ | with_reducible assumption | with_reducible refine Below.alloc0 ?_ _ | with_reducible refine Below.ext0 ?_ _ | with_reducible refine Below.drew ?_ | with_reducible refine below_drewN ?_ _ | (with_reducible refine Below.setCell (hp := ?hp) ?_ _; case hp => (first | (simp; done) | (simp; omega)))))))) hm1 HH.out.2.1).mono ?_; rw [HH.out.2.2, HJ.out]; rintro e w2 ⟨rfl, hb⟩; (first | (obtain ⟨u, rfl⟩ := ext_more hb; clear hb) | (obtain ⟨u, rfl⟩ := ext_more_alloc hb; clear hb) | (obtain ⟨u, rfl⟩ := ext_of hb; clear hb))))
        refine bodyPost_ret (v := .tuple #[.int .i64 4, .int .i64 m, .int .i64 0]) (by simp [results, Try.results39, go_sem]) rfl ⟨rfl, by (repeat (first | with_reducible exact Below.refl _ _ | with_reducible assumption | with_reducible refine Below.alloc0 ?_ _ | with_reducible refine Below.ext0 ?_ _ | with_reducible refine Below.drew ?_ | with_reducible refine below_drewN ?_ _ | (with_reducible refine Below.setCell (hp := ?hp) ?_ _; case hp => (first | (simp; done) | (simp; omega)))))⟩
    by_cases a5 : a = 5
    · subst a5
      by_cases q1 : op < 1
      · rw [testE_is (hnum.trans (if_pos (.inl q1)))]
        clear hnum
        go_enter Try.func39, Try.ntmps39
        go_wp2_with (go_at_call 45; refine (attr_any _ _).mono ?_; rw [HI.out]; rintro e w1 ⟨rfl, hb⟩; (first | (obtain ⟨u, rfl⟩ := ext_more hb; clear hb) | (obtain ⟨u, rfl⟩ := ext_more_alloc hb; clear hb) | (obtain ⟨u, rfl⟩ := ext_of hb; clear hb)))
        refine bodyPost_ret (v := .tuple #[.int .i64 0, .int .i64 0, .int .i64 10]) (by simp [results, Try.results39, go_sem]) rfl ⟨rfl, by (repeat (first | with_reducible exact Below.refl _ _ | with_reducible assumption | with_reducible refine Below.alloc0 ?_ _ | with_reducible refine Below.ext0 ?_ _ | with_reducible refine Below.drew ?_ | with_reducible refine below_drewN ?_ _ | (with_reducible refine Below.setCell (hp := ?hp) ?_ _; case hp => (first | (simp; done) | (simp; omega)))))⟩
      by_cases q2 : 6 < op
      · rw [testE_is (hnum.trans (if_pos (.inr (.inl q2))))]
        clear hnum
        go_enter Try.func39, Try.ntmps39
        go_wp2_with (go_at_call 45; refine (attr_any _ _).mono ?_; rw [HI.out]; rintro e w1 ⟨rfl, hb⟩; (first | (obtain ⟨u, rfl⟩ := ext_more hb; clear hb) | (obtain ⟨u, rfl⟩ := ext_more_alloc hb; clear hb) | (obtain ⟨u, rfl⟩ := ext_of hb; clear hb)))
        refine bodyPost_ret (v := .tuple #[.int .i64 0, .int .i64 0, .int .i64 10]) (by simp [results, Try.results39, go_sem]) rfl ⟨rfl, by (repeat (first | with_reducible exact Below.refl _ _ | with_reducible assumption | with_reducible refine Below.alloc0 ?_ _ | with_reducible refine Below.ext0 ?_ _ | with_reducible refine Below.drew ?_ | with_reducible refine below_drewN ?_ _ | (with_reducible refine Below.setCell (hp := ?hp) ?_ _; case hp => (first | (simp; done) | (simp; omega)))))⟩
      by_cases q3 : nn = noName
      · subst q3
        have qe := empty_of
        rw [if_neg (by simp; omega), if_pos rfl] at hnum
        simp only at hnum
        by_cases q5 : n < 0
        · rw [testE_is (hnum.trans (if_pos (.inl q5)))]
          clear hnum
          go_enter Try.func39, Try.ntmps39
          go_wp2_with (go_at_call 45; refine (attr_any _ _).mono ?_; rw [HI.out]; rintro e w1 ⟨rfl, hb⟩; (first | (obtain ⟨u, rfl⟩ := ext_more hb; clear hb) | (obtain ⟨u, rfl⟩ := ext_more_alloc hb; clear hb) | (obtain ⟨u, rfl⟩ := ext_of hb; clear hb)))
          refine bodyPost_ret (v := .tuple #[.int .i64 0, .int .i64 0, .int .i64 2]) (by simp [results, Try.results39, go_sem]) rfl ⟨rfl, by (repeat (first | with_reducible exact Below.refl _ _ | with_reducible assumption | with_reducible refine Below.alloc0 ?_ _ | with_reducible refine Below.ext0 ?_ _ | with_reducible refine Below.drew ?_ | with_reducible refine below_drewN ?_ _ | (with_reducible refine Below.setCell (hp := ?hp) ?_ _; case hp => (first | (simp; done) | (simp; omega)))))⟩
        by_cases q6 : 1000000000 < n
        · rw [testE_is (hnum.trans (if_pos (.inr q6)))]
          clear hnum
          go_enter Try.func39, Try.ntmps39
          go_wp2_with (go_at_call 45; refine (attr_any _ _).mono ?_; rw [HI.out]; rintro e w1 ⟨rfl, hb⟩; (first | (obtain ⟨u, rfl⟩ := ext_more hb; clear hb) | (obtain ⟨u, rfl⟩ := ext_more_alloc hb; clear hb) | (obtain ⟨u, rfl⟩ := ext_of hb; clear hb)))
          refine bodyPost_ret (v := .tuple #[.int .i64 0, .int .i64 0, .int .i64 2]) (by simp [results, Try.results39, go_sem]) rfl ⟨rfl, by (repeat (first | with_reducible exact Below.refl _ _ | with_reducible assumption | with_reducible refine Below.alloc0 ?_ _ | with_reducible refine Below.ext0 ?_ _ | with_reducible refine Below.drew ?_ | with_reducible refine below_drewN ?_ _ | (with_reducible refine Below.setCell (hp := ?hp) ?_ _; case hp => (first | (simp; done) | (simp; omega)))))⟩
        rw [testE_is (hnum.trans (if_neg (by omega)))]
        clear hnum
        go_enter Try.func39, Try.ntmps39
        go_wp2_with (go_at_call 45; refine (attr_any _ _).mono ?_; rw [HI.out]; rintro e w1 ⟨rfl, hb⟩; (first | (obtain ⟨u, rfl⟩ := ext_more hb; clear hb) | (obtain ⟨u, rfl⟩ := ext_more_alloc hb; clear hb) | (obtain ⟨u, rfl⟩ := ext_of hb; clear hb)))
        refine bodyPost_ret (v := .tuple #[.int .i64 5, .int .i64 n, .int .i64 0]) (by simp [results, Try.results39, go_sem]) rfl ⟨rfl, by (repeat (first | with_reducible exact Below.refl _ _ | with_reducible assumption | with_reducible refine Below.alloc0 ?_ _ | with_reducible refine Below.ext0 ?_ _ | with_reducible refine Below.drew ?_ | with_reducible refine below_drewN ?_ _ | (with_reducible refine Below.setCell (hp := ?hp) ?_ _; case hp => (first | (simp; done) | (simp; omega)))))⟩
      have qe := full_of q3
      rw [if_neg (by omega), if_neg q3] at hnum
      cases hj : idxB nn (tableN L 5) with
      | none =>
        rw [hj] at hnum
        rw [testE_is hnum]
        have HJ := Lib.hid (idxI_none hj)
        clear hnum hj q3
        go_enter Try.func39, Try.ntmps39
        go_wp2_with (first
          | (go_at_call 45; refine (attr_any _ _).mono ?_; rw [HI.out]; rintro e w1 ⟨rfl, hb⟩; (first | (obtain ⟨u, rfl⟩ := ext_more hb; clear hb) | (obtain ⟨u, rfl⟩ := ext_more_alloc hb; clear hb) | (obtain ⟨u, rfl⟩ := ext_of hb; clear hb)))
          | (go_at_call 46; refine (num_at hn x y AH lh ch 5 5 rfl nn _ B (HH.out.1 _ (by (repeat (first | with_reducible exact Below.refl _ _ | with_reducible assumption | with_reducible refine Below.alloc0 ?_ _ | with_reducible refine Below.ext0 ?_ _ | with_reducible refine Below.drew ?_ | with_reducible refine below_drewN ?_ _ | (with_reducible refine Below.setCell (hp := ?hp) ?_ _; case hp => (first | (simp; done) | (simp; omega))))))) (Nat.le_trans hB (Below.size (show Below w.heap.size w _ by (repeat (first | with_reducible exact Below.refl _ _ | with_reducible assumption | with_reducible refine Below.alloc0 ?_ _ | with_reducible refine Below.ext0 ?_ _ | with_reducible refine Below.drew ?_ | with_reducible refine below_drewN ?_ _ | (with_reducible refine Below.setCell (hp := ?hp) ?_ _; case hp => (first | (simp; done) | (simp; omega)))))))) hm1 HH.out.2.1).mono ?_; rw [HH.out.2.2, HJ.out]; rintro e w2 ⟨rfl, hb⟩; (first | (obtain ⟨u, rfl⟩ := ext_more hb; clear hb) | (obtain ⟨u, rfl⟩ := ext_more_alloc hb; clear hb) | (obtain ⟨u, rfl⟩ := ext_of hb; clear hb))))
        refine bodyPost_ret (v := .tuple #[.int .i64 0, .int .i64 0, .int .i64 8]) (by simp [results, Try.results39, go_sem]) rfl ⟨rfl, by (repeat (first | with_reducible exact Below.refl _ _ | with_reducible assumption | with_reducible refine Below.alloc0 ?_ _ | with_reducible refine Below.ext0 ?_ _ | with_reducible refine Below.drew ?_ | with_reducible refine below_drewN ?_ _ | (with_reducible refine Below.setCell (hp := ?hp) ?_ _; case hp => (first | (simp; done) | (simp; omega)))))⟩
      | some m =>
        have hm6 : m < 1000000 := by have := idxB_lt hj; have := tableN_len (L := L) (a := 5) h1 h2; omega
        rw [hj] at hnum
        simp only [Option.map_some] at hnum
        rw [if_neg (by omega)] at hnum
        rw [testE_is hnum]
        have HJ := Lib.hid (idxI_some hj)
        have m1 : ¬ (m : Int) < 0 := by omega
        have m2 : ¬ 1000000000 < (m : Int) := by omega
        clear hnum hj q3
        go_enter Try.func39, Try.ntmps39
        go_wp2_with (first
          | (go_at_call 45; refine (attr_any _ _).mono ?_; rw [HI.out]; rintro e w1 ⟨rfl, hb⟩; (first | (obtain ⟨u, rfl⟩ := ext_more hb; clear hb) | (obtain ⟨u, rfl⟩ := ext_more_alloc hb; clear hb) | (obtain ⟨u, rfl⟩ := ext_of hb; clear hb)))
          | (go_at_call 46; refine (num_at hn x y AH lh ch 5 5 rfl nn _ B (HH.out.1 _ (by (repeat (first | with_reducible exact Below.refl _ _ | with_reducible assumption | with_reducible refine Below.alloc0 ?_ _ | with_reducible refine Below.ext0 ?_ _ | with_reducible refine Below.drew ?_ | with_reducible refine below_drewN ?_ _ | (with_reducible refine Below.setCell (hp := ?hp) ?_ _; case hp => (first | (simp; done) | (simp; omega))))))) (Nat.le_trans hB (Below.size (show Below w.heap.size w _ by (repeat (first | with_reducible exact Below.refl _ _ | with_reducible assumption | with_reducible refine Below.alloc0 ?_ _ | with_reducible refine Below.ext0 ?_ _ | with_reducible refine Below.drew ?_ | with_reducible refine below_drewN ?_ _ | (with_reducible refine Below.setCell (hp := ?hp) ?_ _; case hp => (first | (simp; done) | (simp; omega)))))))) hm1 HH.out.2.1).mono ?_; rw [HH.out.2.2, HJ.out]; rintro e w2 ⟨rfl, hb⟩; (first | (obtain ⟨u, rfl⟩ := ext_more hb; clear hb) | (obtain ⟨u, rfl⟩ := ext_more_alloc hb; clear hb) | (obtain ⟨u, rfl⟩ := ext_of hb; clear hb))))
        refine bodyPost_ret (v := .tuple #[.int .i64 5, .int .i64 m, .int .i64 0]) (by simp [results, Try.results39, go_sem]) rfl ⟨rfl, by (repeat (first | with_reducible exact Below.refl _ _ | with_reducible assumption | with_reducible refine Below.alloc0 ?_ _ | with_reducible refine Below.ext0 ?_ _ | with_reducible refine Below.drew ?_ | with_reducible refine below_drewN ?_ _ | (with_reducible refine Below.setCell (hp := ?hp) ?_ _; case hp => (first | (simp; done) | (simp; omega)))))⟩
    by_cases a6 : a = 6
    · subst a6
      by_cases q1 : op < 1
      · rw [testE_is (hnum.trans (if_pos (.inl q1)))]
        clear hnum
        go_enter Try.func39, Try.ntmps39
        go_wp2_with (go_at_call 45; refine (attr_any _ _).mono ?_; rw [HI.out]; rintro e w1 ⟨rfl, hb⟩; (first | (obtain ⟨u, rfl⟩ := ext_more hb; clear hb) | (obtain ⟨u, rfl⟩ := ext_more_alloc hb; clear hb) | (obtain ⟨u, rfl⟩ := ext_of hb; clear hb)))
        refine bodyPost_ret (v := .tuple #[.int .i64 0, .int .i64 0, .int .i64 10]) (by simp [results, Try.results39, go_sem]) rfl ⟨rfl, by (repeat (first | with_reducible exact Below.refl _ _ | with_reducible assumption | with_reducible refine Below.alloc0 ?_ _ | with_reducible refine Below.ext0 ?_ _ | with_reducible refine Below.drew ?_ | with_reducible refine below_drewN ?_ _ | (with_reducible refine Below.setCell (hp := ?hp) ?_ _; case hp => (first | (simp; done) | (simp; omega)))))⟩
      by_cases q2 : 6 < op
      · rw [testE_is (hnum.trans (if_pos (.inr (.inl q2))))]
        clear hnum
        go_enter Try.func39, Try.ntmps39
        go_wp2_with (go_at_call 45; refine (attr_any _ _).mono ?_; rw [HI.out]; rintro e w1 ⟨rfl, hb⟩; (first | (obtain ⟨u, rfl⟩ := ext_more hb; clear hb) | (obtain ⟨u, rfl⟩ := ext_more_alloc hb; clear hb) | (obtain ⟨u, rfl⟩ := ext_of hb; clear hb)))
        refine bodyPost_ret (v := .tuple #[.int .i64 0, .int .i64 0, .int .i64 10]) (by simp [results, Try.results39, go_sem]) rfl ⟨rfl, by (repeat (first | with_reducible exact Below.refl _ _ | with_reducible assumption | with_reducible refine Below.alloc0 ?_ _ | with_reducible refine Below.ext0 ?_ _ | with_reducible refine Below.drew ?_ | with_reducible refine below_drewN ?_ _ | (with_reducible refine Below.setCell (hp := ?hp) ?_ _; case hp => (first | (simp; done) | (simp; omega)))))⟩
      by_cases q3 : nn = noName
      · subst q3
        have qe := empty_of
        rw [if_neg (by simp; omega), if_pos rfl] at hnum
        simp only at hnum
        by_cases q5 : n < 0
        · rw [testE_is (hnum.trans (if_pos (.inl q5)))]
          clear hnum
          go_enter Try.func39, Try.ntmps39
          go_wp2_with (go_at_call 45; refine (attr_any _ _).mono ?_; rw [HI.out]; rintro e w1 ⟨rfl, hb⟩; (first | (obtain ⟨u, rfl⟩ := ext_more hb; clear hb) | (obtain ⟨u, rfl⟩ := ext_more_alloc hb; clear hb) | (obtain ⟨u, rfl⟩ := ext_of hb; clear hb)))
          refine bodyPost_ret (v := .tuple #[.int .i64 0, .int .i64 0, .int .i64 2]) (by simp [results, Try.results39, go_sem]) rfl ⟨rfl, by (repeat (first | with_reducible exact Below.refl _ _ | with_reducible assumption | with_reducible refine Below.alloc0 ?_ _ | with_reducible refine Below.ext0 ?_ _ | with_reducible refine Below.drew ?_ | with_reducible refine below_drewN ?_ _ | (with_reducible refine Below.setCell (hp := ?hp) ?_ _; case hp => (first | (simp; done) | (simp; omega)))))⟩
        by_cases q6 : 1000000000 < n
        · rw [testE_is (hnum.trans (if_pos (.inr q6)))]
          clear hnum
          go_enter Try.func39, Try.ntmps39
          go_wp2_with (go_at_call 45; refine (attr_any _ _).mono ?_; rw [HI.out]; rintro e w1 ⟨rfl, hb⟩; (first | (obtain ⟨u, rfl⟩ := ext_more hb; clear hb) | (obtain ⟨u, rfl⟩ := ext_more_alloc hb; clear hb) | (obtain ⟨u, rfl⟩ := ext_of hb; clear hb)))
          refine bodyPost_ret (v := .tuple #[.int .i64 0, .int .i64 0, .int .i64 2]) (by simp [results, Try.results39, go_sem]) rfl ⟨rfl, by (repeat (first | with_reducible exact Below.refl _ _ | with_reducible assumption | with_reducible refine Below.alloc0 ?_ _ | with_reducible refine Below.ext0 ?_ _ | with_reducible refine Below.drew ?_ | with_reducible refine below_drewN ?_ _ | (with_reducible refine Below.setCell (hp := ?hp) ?_ _; case hp => (first | (simp; done) | (simp; omega)))))⟩
        rw [testE_is (hnum.trans (if_neg (by omega)))]
        clear hnum
        go_enter Try.func39, Try.ntmps39
        go_wp2_with (go_at_call 45; refine (attr_any _ _).mono ?_; rw [HI.out]; rintro e w1 ⟨rfl, hb⟩; (first | (obtain ⟨u, rfl⟩ := ext_more hb; clear hb) | (obtain ⟨u, rfl⟩ := ext_more_alloc hb; clear hb) | (obtain ⟨u, rfl⟩ := ext_of hb; clear hb)))
        refine bodyPost_ret (v := .tuple #[.int .i64 6, .int .i64 n, .int .i64 0]) (by simp [results, Try.results39, go_sem]) rfl ⟨rfl, by (repeat (first | with_reducible exact Below.refl _ _ | with_reducible assumption | with_reducible refine Below.alloc0 ?_ _ | with_reducible refine Below.ext0 ?_ _ | with_reducible refine Below.drew ?_ | with_reducible refine below_drewN ?_ _ | (with_reducible refine Below.setCell (hp := ?hp) ?_ _; case hp => (first | (simp; done) | (simp; omega)))))⟩
      have qe := full_of q3
      rw [if_neg (by omega), if_neg q3] at hnum
      cases hj : idxB nn (tableN L 6) with
      | none =>
        rw [hj] at hnum
        rw [testE_is hnum]
        have HJ := Lib.hid (idxI_none hj)
        clear hnum hj q3
        go_enter Try.func39, Try.ntmps39
        go_wp2_with (first
          | (go_at_call 45; refine (attr_any _ _).mono ?_; rw [HI.out]; rintro e w1 ⟨rfl, hb⟩; (first | (obtain ⟨u, rfl⟩ := ext_more hb; clear hb) | (obtain ⟨u, rfl⟩ := ext_more_alloc hb; clear hb) | (obtain ⟨u, rfl⟩ := ext_of hb; clear hb)))
          | (go_at_call 46; refine (num_at hn x y AH lh ch 6 6 rfl nn _ B (HH.out.1 _ (by (repeat (first | with_reducible exact Below.refl _ _ | with_reducible assumption | with_reducible refine Below.alloc0 ?_ _ | with_reducible refine Below.ext0 ?_ _ | with_reducible refine Below.drew ?_ | with_reducible refine below_drewN ?_ _ | (with_reducible refine Below.setCell (hp := ?hp) ?_ _; case hp => (first | (simp; done) | (simp; omega))))))) (Nat.le_trans hB (Below.size (show Below w.heap.size w _ by (repeat (first | with_reducible exact Below.refl _ _ | with_reducible assumption | with_reducible refine Below.alloc0 ?_ _ | with_reducible refine Below.ext0 ?_ _ | with_reducible refine Below.drew ?_ | with_reducible refine below_drewN ?_ _ | (with_reducible refine Below.setCell (hp := ?hp) ?_ _; case hp => (first | (simp; done) | (simp; omega)))))))) hm1 HH.out.2.1).mono ?_; rw [HH.out.2.2, HJ.out]; rintro e w2 ⟨rfl, hb⟩; (first | (obtain ⟨u, rfl⟩ := ext_more hb; clear hb) | (obtain ⟨u, rfl⟩ := ext_more_alloc hb; clear hb) | (obtain ⟨u, rfl⟩ := ext_of hb; clear hb))))
        refine bodyPost_ret (v := .tuple #[.int .i64 0, .int .i64 0, .int .i64 8]) (by simp [results, Try.results39, go_sem]) rfl ⟨rfl, by (repeat (first | with_reducible exact Below.refl _ _ | with_reducible assumption | with_reducible refine Below.alloc0 ?_ _ | with_reducible refine Below.ext0 ?_ _ | with_reducible refine Below.drew ?_ | with_reducible refine below_drewN ?_ _ | (with_reducible refine Below.setCell (hp := ?hp) ?_ _; case hp => (first | (simp; done) | (simp; omega)))))⟩
      | some m =>
        have hm6 : m < 1000000 := by have := idxB_lt hj; have := tableN_len (L := L) (a := 6) h1 h2; omega
        rw [hj] at hnum
        simp only [Option.map_some] at hnum
        rw [if_neg (by omega)] at hnum
        rw [testE_is hnum]
        have HJ := Lib.hid (idxI_some hj)
        have m1 : ¬ (m : Int) < 0 := by omega
        have m2 : ¬ 1000000000 < (m : Int) := by omega
        clear hnum hj q3
        go_enter Try.func39, Try.ntmps39
        go_wp2_with (first
          | (go_at_call 45; refine (attr_any _ _).mono ?_; rw [HI.out]; rintro e w1 ⟨rfl, hb⟩; (first | (obtain ⟨u, rfl⟩ := ext_more hb; clear hb) | (obtain ⟨u, rfl⟩ := ext_more_alloc hb; clear hb) | (obtain ⟨u, rfl⟩ := ext_of hb; clear hb)))
          | (go_at_call 46; refine (num_at hn x y AH lh ch 6 6 rfl nn _ B (HH.out.1 _ (by (repeat (first | with_reducible exact Below.refl _ _ | with_reducible assumption | with_reducible refine Below.alloc0 ?_ _ | with_reducible refine Below.ext0 ?_ _ | with_reducible refine Below.drew ?_ | with_reducible refine below_drewN ?_ _ | (with_reducible refine Below.setCell (hp := ?hp) ?_ _; case hp => (first | (simp; done) | (simp; omega))))))) (Nat.le_trans hB (Below.size (show Below w.heap.size w _ by (repeat (first | with_reducible exact Below.refl _ _ | with_reducible assumption | with_reducible refine Below.alloc0 ?_ _ | with_reducible refine Below.ext0 ?_ _ | with_reducible refine Below.drew ?_ | with_reducible refine below_drewN ?_ _ | (with_reducible refine Below.setCell (hp := ?hp) ?_ _; case hp => (first | (simp; done) | (simp; omega)))))))) hm1 HH.out.2.1).mono ?_; rw [HH.out.2.2, HJ.out]; rintro e w2 ⟨rfl, hb⟩; (first | (obtain ⟨u, rfl⟩ := ext_more hb; clear hb) | (obtain ⟨u, rfl⟩ := ext_more_alloc hb; clear hb) | (obtain ⟨u, rfl⟩ := ext_of hb; clear hb))))
        refine bodyPost_ret (v := .tuple #[.int .i64 6, .int .i64 m, .int .i64 0]) (by simp [results, Try.results39, go_sem]) rfl ⟨rfl, by (repeat (first | with_reducible exact Below.refl _ _ | with_reducible assumption | with_reducible refine Below.alloc0 ?_ _ | with_reducible refine Below.ext0 ?_ _ | with_reducible refine Below.drew ?_ | with_reducible refine below_drewN ?_ _ | (with_reducible refine Below.setCell (hp := ?hp) ?_ _; case hp => (first | (simp; done) | (simp; omega)))))⟩
    have hq4 : ((a : Int) == 4) = false := by simpa using (show ¬ (a : Int) = 4 by omega)
    have hq5 : ((a : Int) == 5) = false := by simpa using (show ¬ (a : Int) = 5 by omega)
    have hq6 : ((a : Int) == 6) = false := by simpa using (show ¬ (a : Int) = 6 by omega)
    by_cases q1 : op < 1
    · rw [testE_is (hnum.trans (if_pos (.inl q1)))]
      clear hnum
      go_enter Try.func39, Try.ntmps39
      go_wp2_with (go_at_call 45; refine (attr_any _ _).mono ?_; rw [HI.out]; rintro e w1 ⟨rfl, hb⟩; (first | (obtain ⟨u, rfl⟩ := ext_more hb; clear hb) | (obtain ⟨u, rfl⟩ := ext_more_alloc hb; clear hb) | (obtain ⟨u, rfl⟩ := ext_of hb; clear hb)))
      refine bodyPost_ret (v := .tuple #[.int .i64 0, .int .i64 0, .int .i64 10]) (by simp [results, Try.results39, go_sem]) rfl ⟨rfl, by (repeat (first | with_reducible exact Below.refl _ _ | with_reducible assumption | with_reducible refine Below.alloc0 ?_ _ | with_reducible refine Below.ext0 ?_ _ | with_reducible refine Below.drew ?_ | with_reducible refine below_drewN ?_ _ | (with_reducible refine Below.setCell (hp := ?hp) ?_ _; case hp => (first | (simp; done) | (simp; omega)))))⟩
    by_cases q2 : 6 < op
    · rw [testE_is (hnum.trans (if_pos (.inr (.inl q2))))]
      clear hnum
      go_enter Try.func39, Try.ntmps39
      go_wp2_with (go_at_call 45; refine (attr_any _ _).mono ?_; rw [HI.out]; rintro e w1 ⟨rfl, hb⟩; (first | (obtain ⟨u, rfl⟩ := ext_more hb; clear hb) | (obtain ⟨u, rfl⟩ := ext_more_alloc hb; clear hb) | (obtain ⟨u, rfl⟩ := ext_of hb; clear hb)))
      refine bodyPost_ret (v := .tuple #[.int .i64 0, .int .i64 0, .int .i64 10]) (by simp [results, Try.results39, go_sem]) rfl ⟨rfl, by (repeat (first | with_reducible exact Below.refl _ _ | with_reducible assumption | with_reducible refine Below.alloc0 ?_ _ | with_reducible refine Below.ext0 ?_ _ | with_reducible refine Below.drew ?_ | with_reducible refine below_drewN ?_ _ | (with_reducible refine Below.setCell (hp := ?hp) ?_ _; case hp => (first | (simp; done) | (simp; omega)))))⟩
    by_cases q3 : nn = noName
    · subst q3
      have qe := empty_of
      rw [if_neg (by simp; omega), if_pos rfl] at hnum
      simp only at hnum
      by_cases q5 : n < 0
      · rw [testE_is (hnum.trans (if_pos (.inl q5)))]
        clear hnum
        go_enter Try.func39, Try.ntmps39
        go_wp2_with (go_at_call 45; refine (attr_any _ _).mono ?_; rw [HI.out]; rintro e w1 ⟨rfl, hb⟩; (first | (obtain ⟨u, rfl⟩ := ext_more hb; clear hb) | (obtain ⟨u, rfl⟩ := ext_more_alloc hb; clear hb) | (obtain ⟨u, rfl⟩ := ext_of hb; clear hb)))
        refine bodyPost_ret (v := .tuple #[.int .i64 0, .int .i64 0, .int .i64 2]) (by simp [results, Try.results39, go_sem]) rfl ⟨rfl, by (repeat (first | with_reducible exact Below.refl _ _ | with_reducible assumption | with_reducible refine Below.alloc0 ?_ _ | with_reducible refine Below.ext0 ?_ _ | with_reducible refine Below.drew ?_ | with_reducible refine below_drewN ?_ _ | (with_reducible refine Below.setCell (hp := ?hp) ?_ _; case hp => (first | (simp; done) | (simp; omega)))))⟩
      by_cases q6 : 1000000000 < n
      · rw [testE_is (hnum.trans (if_pos (.inr q6)))]
        clear hnum
        go_enter Try.func39, Try.ntmps39
        go_wp2_with (go_at_call 45; refine (attr_any _ _).mono ?_; rw [HI.out]; rintro e w1 ⟨rfl, hb⟩; (first | (obtain ⟨u, rfl⟩ := ext_more hb; clear hb) | (obtain ⟨u, rfl⟩ := ext_more_alloc hb; clear hb) | (obtain ⟨u, rfl⟩ := ext_of hb; clear hb)))
        refine bodyPost_ret (v := .tuple #[.int .i64 0, .int .i64 0, .int .i64 2]) (by simp [results, Try.results39, go_sem]) rfl ⟨rfl, by (repeat (first | with_reducible exact Below.refl _ _ | with_reducible assumption | with_reducible refine Below.alloc0 ?_ _ | with_reducible refine Below.ext0 ?_ _ | with_reducible refine Below.drew ?_ | with_reducible refine below_drewN ?_ _ | (with_reducible refine Below.setCell (hp := ?hp) ?_ _; case hp => (first | (simp; done) | (simp; omega)))))⟩
      rw [testE_is (hnum.trans (if_neg (by omega)))]
      clear hnum
      go_enter Try.func39, Try.ntmps39
      go_wp2_with (go_at_call 45; refine (attr_any _ _).mono ?_; rw [HI.out]; rintro e w1 ⟨rfl, hb⟩; (first | (obtain ⟨u, rfl⟩ := ext_more hb; clear hb) | (obtain ⟨u, rfl⟩ := ext_more_alloc hb; clear hb) | (obtain ⟨u, rfl⟩ := ext_of hb; clear hb)))
      refine bodyPost_ret (v := .tuple #[.int .i64 a, .int .i64 n, .int .i64 0]) (by simp [results, Try.results39, go_sem]) rfl ⟨rfl, by (repeat (first | with_reducible exact Below.refl _ _ | with_reducible assumption | with_reducible refine Below.alloc0 ?_ _ | with_reducible refine Below.ext0 ?_ _ | with_reducible refine Below.drew ?_ | with_reducible refine below_drewN ?_ _ | (with_reducible refine Below.setCell (hp := ?hp) ?_ _; case hp => (first | (simp; done) | (simp; omega)))))⟩
    have qe := full_of q3
    rw [testE_is (hnum.trans (if_pos (.inr (.inr ⟨q3, by omega⟩))))]
    clear hnum
    go_enter Try.func39, Try.ntmps39
    go_wp2_with (go_at_call 45; refine (attr_any _ _).mono ?_; rw [HI.out]; rintro e w1 ⟨rfl, hb⟩; (first | (obtain ⟨u, rfl⟩ := ext_more hb; clear hb) | (obtain ⟨u, rfl⟩ := ext_more_alloc hb; clear hb) | (obtain ⟨u, rfl⟩ := ext_of hb; clear hb)))
    refine bodyPost_ret (v := .tuple #[.int .i64 0, .int .i64 0, .int .i64 10]) (by simp [results, Try.results39, go_sem]) rfl ⟨rfl, by (repeat (first | with_reducible exact Below.refl _ _ | with_reducible assumption | with_reducible refine Below.alloc0 ?_ _ | with_reducible refine Below.ext0 ?_ _ | with_reducible refine Below.drew ?_ | with_reducible refine below_drewN ?_ _ | (with_reducible refine Below.setCell (hp := ?hp) ?_ _; case hp => (first | (simp; done) | (simp; omega)))))⟩
end Go.Proofs.Ytecjhniomjmocaa
