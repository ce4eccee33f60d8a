/- Layer 30 (title): Extends. -/
import Derived.Test.YtojkpoikamcgkaaDoorOwnX
import Derived.ChangeKeysEq
namespace Go.Proofs.YtojkpoikamcgkaaDoor
open Go.RowKit Go.Shelf
set_option linter.unusedVariables false
set_option linter.unusedSimpArgs false
attribute [local go_sem] ext_cell ext_frozen lt_ext ext_drew

set_option maxRecDepth 100000 in
theorem neq_three (a b c : ByteArray) (w : World) : (binOp .neq 54 (.agg #[.string a, .string b, .string c]) (.agg #[.string a, .string b, .string c])).run Tryd.prog w = .ok (.bool false) w := by
  obtain ⟨i, hi⟩ : ∃ i, Tryd.prog.info? 9 = some i := by
    have : (Tryd.prog.info? 9).isSome = true := by kernel_rfl
    exact Option.isSome_iff_exists.1 this
  have hz : Tryd.prog.cellsOf 9 = 1 := by kernel_rfl
  have h9 := run_equalIn_array (P := Tryd.prog) w 9999 #[Value.string a, .string b, .string c] #[Value.string a, .string b, .string c] Tryd.underlying54 hi
  rw [hz] at h9
  rw [run_neq_struct]
  refine (congrArg (fun r => Result.andThen r fun b w' => Result.ok (Value.bool (!b)) w') h9).trans ?_
  have hs : ∀ x : ByteArray, (Op.equalIn (9998 + 1) 9 (.string x) (.string x)).run Tryd.prog w = .ok true w := fun x => by
    rw [run_equalIn_string (h := Tryd.underlying9)]
    simp
  have hp : ∀ (k : Nat) (x : ByteArray), (#[Value.string a, .string b, .string c] : Array Value)[k]? = some (.string x) → (part 9 #[.string a, .string b, .string c] (k * 1)).run Tryd.prog w = .ok (.string x) w := fun k x hk => run_part_one Tryd.underlying9 rfl _ _ _ w (by rw [Nat.mul_one]; exact hk)
  show ((Op.eqItems 9999 9 1 _ _ [0, 1, 2]).run Tryd.prog w).andThen _ = _
  simp only [Op.eqItems, Sem.run_bind]
  rw [hp 0 a rfl]
  simp only [Result.andThen_ok]
  rw [hp 0 a rfl]
  simp only [Result.andThen_ok]
  rw [hs a]
  simp only [Result.andThen_ok, Bool.not_true, Bool.false_eq_true, if_false, Sem.run_bind]
  rw [hp 1 b rfl]
  simp only [Result.andThen_ok]
  rw [hp 1 b rfl]
  simp only [Result.andThen_ok]
  rw [hs b]
  simp only [Result.andThen_ok, Bool.not_true, Bool.false_eq_true, if_false, Sem.run_bind]
  rw [hp 2 c rfl]
  simp only [Result.andThen_ok]
  rw [hp 2 c rfl]
  simp only [Result.andThen_ok]
  rw [hs c]
  simp [Result.andThen_ok]

set_option maxRecDepth 100000 in
set_option maxHeartbeats 2000000 in
theorem identity_any (se sh pl : Int) (fi : ByteArray) (v : Value) (w : World) (s1 : -9223372036854775808 ≤ se) (s2 : se ≤ 9223372036854775807) (s3 : -9223372036854775808 ≤ sh) (s4 : sh ≤ 9223372036854775807) (hv : v.oneCell' = true) (ht : Tabs w) :
    Calls Tryd.prog 25 #[.agg #[.int .i64 se, .int .i64 sh, .int .i64 pl, .string fi, v]] w fun e w' => e = .returned (.agg #[.string ⟨(Lib.itoa se).toArray⟩, .string ⟨(Lib.itoa sh).toArray⟩, .string fi]) ∧ Below w.heap.size w w' := by
  have hA := fun (X : World) (hx : Tabs X) => itoa_any se s1 s2 X hx
  have hC := fun (X : World) (hx : Tabs X) => itoa_any sh s3 s4 X hx
  obtain ⟨I1, hI1⟩ : ∃ I : ByteArray, (⟨(Lib.itoa se).toArray⟩ : ByteArray) = I := ⟨_, rfl⟩
  obtain ⟨I2, hI2⟩ : ∃ I : ByteArray, (⟨(Lib.itoa sh).toArray⟩ : ByteArray) = I := ⟨_, rfl⟩
  rw [hI1] at hA
  rw [hI2] at hC
  rw [hI1, hI2]
  obtain ⟨W, hW⟩ : ∃ W, (w.alloc (.cells #[.int .i64 se, .int .i64 sh, .int .i64 pl, .string fi, v] 24)).alloc (.cells #[.string ⟨#[]⟩, .string ⟨#[]⟩, .string ⟨#[]⟩] 54) = W := ⟨_, rfl⟩
  have b0 : Bk W w.heap.size #[.int .i64 se, .int .i64 sh, .int .i64 pl, .string fi, v] 24 := by rw [← hW]; exact (Bk.new _ _ _).alloc _
  have b1 : Bk W (w.heap.size + 1) #[.string ⟨#[]⟩, .string ⟨#[]⟩, .string ⟨#[]⟩] 54 := by rw [← hW]; exact bk_next _ _ _ _
  have hwW : Below w.heap.size w W := by rw [← hW]; (repeat (first | with_reducible exact Below.refl _ _ | with_reducible assumption | with_reducible refine Below.alloc0 ?_ _ | with_reducible refine Below.ext0 ?_ _ | with_reducible refine Below.drew ?_ | with_reducible refine below_drewN ?_ _ | (with_reducible refine Below.setCell (hp := ?hp) ?_ _; case hp => (first | (simp; done) | (simp; omega)))))
  have hsW : W.heap.size = w.heap.size + 1 + 1 := by rw [← hW]; simp
  have HC := Lib.hid (And.intro hA (And.intro hC (And.intro (ht.below hwW) (And.intro hwW (And.intro b0 (And.intro b1 (And.intro hsW hW)))))))
  have c0 := b0.cell 0
  have c1 := b0.cell 1
  have c3 := b0.cell 3
  have l0 := b0.lt
  clear hA hC hI1 hI2 b0 b1 hwW hsW ht
  go_enter Tryd.func25, Tryd.ntmps25
  go_upto_region 1 with (fail)
  try rw [hW]
  clear hW
  refine region_planl (S := fun w' => ∃ u, w' = ext W u) [([0, 1, 3, 4, 6, 7], [2, 5]), ([8], [])] 9 (by kernel_rfl) (by kernel_rfl) (by obtain ⟨u, e⟩ := ext_of ((Below.refl W.heap.size W).drew); exact ⟨u, e.symm⟩) ?_
  refine plan_take (fun K9 h9 => ?_)
  simp only [List.map_cons, List.map_nil, pickO, List.getD_cons_zero, List.getD_cons_succ]
  repeat (go_big_quiet_step (fail))
  refine wpQuiet_nil (h9 _ ?_)
  clear h9 K9
  refine plan_run (fun K9 h9 => ?_)
  simp only [pickO, List.getD_cons_zero, List.getD_cons_succ]
  go_wp2_with (go_at_call 22; refine Calls.mono (HC.out.1 _ (HC.out.2.2.1.below ((Below.refl _ _).drew))) ?_; rintro e w' ⟨rfl, hbb⟩; obtain ⟨u, rfl⟩ := ext_of ((Below.refl W.heap.size W).drew.trans (hbb.mono (Nat.le_refl _))); clear hbb)
  refine h9 _ _ mem_ext ?_
  clear h9 K9
  refine plan_run (fun K9 h9 => ?_)
  simp only [pickO, List.getD_cons_zero, List.getD_cons_succ]
  go_wp2_with (go_at_call 22; refine Calls.mono (HC.out.2.1 _ (HC.out.2.2.1.below (below_ext W _))) ?_; rintro e w' ⟨rfl, hbb⟩; obtain ⟨u, rfl⟩ := ext_more hbb; clear hbb)
  refine h9 _ _ mem_ext ?_
  clear h9 K9
  refine plan_next ?_
  refine plan_take (fun K9 h9 => ?_)
  simp only [List.map_cons, List.map_nil, pickO, List.getD_cons_zero, List.getD_cons_succ]
  repeat (go_big_quiet_step (fail))
  refine wpQuiet_nil (h9 _ ?_)
  clear h9 K9
  refine plan_next (plan_end ?_)
  simp only [pickO, List.getD_cons_zero, List.getD_cons_succ]
  have bE := HC.out.2.2.2.2.2.1.below (below_ext W u)
  have e0 := bE.cell 0
  have e1 := bE.cell 1
  have e2 := bE.cell 2
  have lE := bE.lt
  have fE := bE.free
  have HE := Lib.hid bE
  clear bE
  go_wp2_with fail
  refine bodyPost_ret (v := .agg #[.string I1, .string I2, .string fi]) (results_cell Tryd.results25 (p := ⟨w.heap.size + 1, 0, none⟩) rfl (run_loadVar_at (b := w.heap.size + 1) (off := 0) (cs := #[.string I1, .string I2, .string fi]) (fun j u h => ?_) Tryd.underlying54 rfl (by kernel_rfl))) rfl ⟨rfl, ?_⟩
  · have b1f := ((HE.out.set_ 0 (.string I1)).set_ 1 (.string I2)).set_ 2 (.string fi)
    simp only [List.setIfInBounds_toArray, List.set_cons_zero, List.set_cons_succ] at b1f
    rw [Nat.zero_add, b1f.cell]
    exact h
  · have hz := HC.out.2.2.2.1.size
    exact (((HC.out.2.2.2.1.trans ((below_ext W u).mono hz)).setCell (by simp) _).setCell (by simp) _).setCell (by simp) _
def eqT (x y : Tr) : Bool := (x.1.toList == y.1.toList) && decide (x.2 = y.2)
set_option maxRecDepth 100000 in
set_option maxHeartbeats 2000000 in
theorem ext1_any (x y : ByteArray) (A1 A2 : Option Addr) (xs ys : List ByteArray) (c1 c2 : Nat) (w : World) (B : Nat) (h1 : Elems tStr w B A1 xs) (h2 : Elems tStr w B A2 ys) (hB : B ≤ w.heap.size) (n1 : xs.length = 18) (n2 : ys.length = 18) :
    Calls Tryd.prog 27 #[.agg #[.string x, .slice A1 18 c1], .agg #[.string y, .slice A2 18 c2]] w fun e w' => e = .returned (.bool (eqT (x, xs) (y, ys))) ∧ Below w.heap.size w w' := by
  obtain ⟨b1, o1, s1, rfl, hb1, _⟩ := pick_str h1 (k := 0) (by omega)
  obtain ⟨b2, o2, s2, rfl, hb2, _⟩ := pick_str h2 (k := 0) (by omega)
  have k1 : ∀ j, j < xs.length → w.cell? ⟨b1, o1 + j, none⟩ = some (.string (xs.getD j ByteArray.empty)) := fun j hj => by
    obtain ⟨b, o, s, e1, _, e3, e4, _⟩ := pick_str h1 hj
    cases e1
    rw [e4, List.getD_eq_getElem?_getD, e3.out]
    rfl
  have k2 : ∀ j, j < ys.length → w.cell? ⟨b2, o2 + j, none⟩ = some (.string (ys.getD j ByteArray.empty)) := fun j hj => by
    obtain ⟨b, o, s, e1, _, e3, e4, _⟩ := pick_str h2 hj
    cases e1
    rw [e4, List.getD_eq_getElem?_getD, e3.out]
    rfl
  have heq := fun (X : World) (hX : Below w.heap.size w X) => Tryd.slices_Equal_string b1 o1 18 c1 b2 o2 18 c2 xs ys X (by omega) (by omega) (by omega) (by omega) (fun j hj => (hX.cell (p := ⟨b1, o1 + j, none⟩) (by show b1 < w.heap.size; omega)).trans (k1 j hj)) (fun j hj => (hX.cell (p := ⟨b2, o2 + j, none⟩) (by show b2 < w.heap.size; omega)).trans (k2 j hj))
  rw [List.take_of_length_le (by omega), List.take_of_length_le (by omega)] at heq
  obtain ⟨r, hr⟩ : ∃ r, decide (xs = ys) = r := ⟨_, rfl⟩
  rw [hr] at heq
  have HQ := Lib.hid (And.intro heq hr)
  clear heq hr k1 k2 h1 h2 n1 n2
  cases hxy : (x.toList == y.toList) with
  | true =>
    go_enter Tryd.func27, Tryd.ntmps27
    go_wp2_with (go_at_call 28; refine (HQ.out.1 _ (by (repeat (first | with_reducible exact Below.refl _ _ | with_reducible assumption | with_reducible refine Below.alloc0 ?_ _ | with_reducible refine Below.ext0 ?_ _ | with_reducible refine Below.drew ?_ | with_reducible refine below_drewN ?_ _ | (with_reducible refine Below.setCell (hp := ?hp) ?_ _; case hp => (first | (simp; done) | (simp; omega))))))).mono ?_; rintro e w2 ⟨rfl, q, rfl⟩)
    go_ret
    refine ⟨?_, by (repeat (first | with_reducible exact Below.refl _ _ | with_reducible assumption | with_reducible refine Below.alloc0 ?_ _ | with_reducible refine Below.ext0 ?_ _ | with_reducible refine Below.drew ?_ | with_reducible refine below_drewN ?_ _ | (with_reducible refine Below.setCell (hp := ?hp) ?_ _; case hp => (first | (simp; done) | (simp; omega)))))⟩
    unfold eqT
    rw [hxy, HQ.out.2]
    rfl
  | false =>
    go_enter Tryd.func27, Tryd.ntmps27
    go_wp2_with fail
    go_ret
    refine ⟨?_, by (repeat (first | with_reducible exact Below.refl _ _ | with_reducible assumption | with_reducible refine Below.alloc0 ?_ _ | with_reducible refine Below.ext0 ?_ _ | with_reducible refine Below.drew ?_ | with_reducible refine below_drewN ?_ _ | (with_reducible refine Below.setCell (hp := ?hp) ?_ _; case hp => (first | (simp; done) | (simp; omega)))))⟩
    unfold eqT
    rw [hxy]
    rfl
def sameT (a b : List Tr) : Bool := (a.zip b).all fun p => eqT p.1 p.2
set_option maxRecDepth 100000 in
set_option maxHeartbeats 2000000 in
theorem equalF_any (n : Nat) (A1 A2 : Option Addr) (xa xb : List Tr) (c1 c2 : Nat) (w : World) (B : Nat) (h1 : Elems tTr w B A1 xa) (h2 : Elems tTr w B A2 xb) (hB : B ≤ w.heap.size) (n1 : xa.length = n) (n2 : xb.length = n) (hn : n ≤ 1000) (m1 : ∀ x ∈ xa, x.2.length = 18) (m2 : ∀ x ∈ xb, x.2.length = 18) :
    Calls Tryd.prog 26 #[.slice A1 n c1, .slice A2 n c2, .func (.func 27) #[] #[]] w fun e w' => e = .returned (.bool (sameT xa xb)) ∧ Below w.heap.size w w' := by
  have HH := Lib.hid (And.intro h1 (And.intro h2 (And.intro n1 (And.intro n2 (And.intro m1 m2)))))
  have n1' : xa.length ≤ n := by omega
  clear h1 h2 n1 n2 m1 m2
  go_enter Tryd.func26, Tryd.ntmps26
  go_wp2_with fail
  go_loopw [17] (fun i wr => ∃ k : Nat, k ≤ n ∧ i = .int .i64 k ∧ (((xa.zip xb).take k).all fun p => eqT p.1 p.2) = true ∧ Below w.heap.size w wr) (fun i _ => n - (intOf i).toNat)
  case atStart => exact ⟨0, by omega, rfl, rfl, Below.refl _ _⟩
  case round =>
    obtain ⟨k, hk, rfl, hall, hlow⟩ := hrel
    generalize wr = wA at *
    have hz := hlow.size
    by_cases hlt : k < n
    · as_aux_lemma =>
      obtain ⟨b, off, tk, AS, ss, cs, rfl, hb, Hk, d0, d1, ht, hs, HE⟩ := pick_tr (HH.out.1.keep (hlow.mono hB) (Nat.le_refl _)) (k := k) (by have := HH.out.2.2.1; omega)
      obtain ⟨b', off', tk', AS', ss', cs', rfl, hb', Hk', d0', d1', ht', hs', HE'⟩ := pick_tr (HH.out.2.1.keep (hlow.mono hB) (Nat.le_refl _)) (k := k) (by have := HH.out.2.2.2.1; omega)
      have l1 : ss.length = 18 := HH.out.2.2.2.2.1 _ (List.mem_of_getElem? Hk.out)
      have l2 : ss'.length = 18 := HH.out.2.2.2.2.2 _ (List.mem_of_getElem? Hk'.out)
      rw [l1] at d1
      rw [l2] at d1'
      have hzk : (xa.zip xb)[k]? = some ((tk, ss), (tk', ss')) := by rw [List.getElem?_zip_eq_some]; exact ⟨Hk.out, Hk'.out⟩
      have hat := all_takeO (fun p : Tr × Tr => eqT p.1 p.2) hzk
      rw [hall, Bool.true_and] at hat
      have hkl : (k : Int) < (n : Int) := by omega
      have bw : b < wA.heap.size := by omega
      have bw' : b' < wA.heap.size := by omega
      have hf := fun (X : World) (hX : Below wA.heap.size wA X) => ext1_any tk tk' AS AS' ss ss' cs cs' X B (HE.out.2.2.keep (hX.mono (by omega)) (Nat.le_refl _)) (HE'.out.2.2.keep (hX.mono (by omega)) (Nat.le_refl _)) (by have := hX.size; omega) l1 l2
      cases hi : eqT (tk, ss) (tk', ss') with
      | true =>
        rw [hi] at hf hat
        have H2 := Lib.hid (And.intro hat (And.intro hf hlow))
        clear hat hall hi hlow hf hzk l1 l2
        go_wp2_with (go_at_call 27; refine (H2.out.2.1 _ (by (repeat (first | with_reducible exact Below.refl _ _ | with_reducible assumption | with_reducible refine Below.alloc0 ?_ _ | with_reducible refine Below.ext0 ?_ _ | with_reducible refine Below.drew ?_ | with_reducible refine below_drewN ?_ _ | (with_reducible refine Below.setCell (hp := ?hp) ?_ _; case hp => (first | (simp; done) | (simp; omega))))))).mono ?_; rintro e w2 ⟨rfl, z1⟩; have HZ := Lib.hid (Below.trans0 (by (repeat (first | with_reducible exact Below.refl _ _ | with_reducible assumption | with_reducible refine Below.alloc0 ?_ _ | with_reducible refine Below.ext0 ?_ _ | with_reducible refine Below.drew ?_ | with_reducible refine below_drewN ?_ _ | (with_reducible refine Below.setCell (hp := ?hp) ?_ _; case hp => (first | (simp; done) | (simp; omega)))))) z1 : Below wA.heap.size wA w2); clear z1)
        go_roundw
        case rel =>
          refine ⟨k + 1, by omega, by go_num, H2.out.1, H2.out.2.2.trans (HZ.out.mono hz)⟩
        case measure => simp [intOf]; omega
      | false =>
        rw [hi] at hf
        have H2 := Lib.hid (And.intro (show sameT xa xb = false from all_badO hzk (by rw [hi])) (And.intro hf hlow))
        clear hat hall hi hlow hf hzk l1 l2
        go_wp2_with (go_at_call 27; refine (H2.out.2.1 _ (by (repeat (first | with_reducible exact Below.refl _ _ | with_reducible assumption | with_reducible refine Below.alloc0 ?_ _ | with_reducible refine Below.ext0 ?_ _ | with_reducible refine Below.drew ?_ | with_reducible refine below_drewN ?_ _ | (with_reducible refine Below.setCell (hp := ?hp) ?_ _; case hp => (first | (simp; done) | (simp; omega))))))).mono ?_; rintro e w2 ⟨rfl, z1⟩; have HZ := Lib.hid (Below.trans0 (by (repeat (first | with_reducible exact Below.refl _ _ | with_reducible assumption | with_reducible refine Below.alloc0 ?_ _ | with_reducible refine Below.ext0 ?_ _ | with_reducible refine Below.drew ?_ | with_reducible refine below_drewN ?_ _ | (with_reducible refine Below.setCell (hp := ?hp) ?_ _; case hp => (first | (simp; done) | (simp; omega)))))) z1 : Below wA.heap.size wA w2); clear z1)
        go_ret
        exact ⟨by rw [H2.out.1]; rfl, H2.out.2.2.trans (HZ.out.mono hz)⟩
    · as_aux_lemma =>
      obtain rfl : k = n := by omega
      have hl : (xa.zip xb).take k = xa.zip xb := List.take_of_length_le (by rw [List.length_zip]; omega)
      rw [hl] at hall
      have H2 := Lib.hid (And.intro (show sameT xa xb = true from hall) hlow)
      clear hall hlow hl
      go_wp2_with fail
      go_ret
      exact ⟨by rw [H2.out.1]; rfl, H2.out.2⟩
set_option maxRecDepth 100000 in
set_option maxHeartbeats 4000000 in
theorem extends_any (se sh p1 p2 : Int) (fi : ByteArray) (n m : Nat) (A1 A2 : Option Addr) (xa xb : List Tr) (c1 c2 : Nat) (w : World) (B : Nat) (h1 : Elems tTr w B A1 xa) (h2 : Elems tTr w B A2 xb) (hB : B ≤ w.heap.size) (n1 : xa.length = n) (n2 : xb.length = m) (hn : n ≤ 1000) (hm : m ≤ n) (hc1 : n ≤ c1) (hc2 : c1 ≤ maxLen)
    (m1 : ∀ x ∈ xa, x.2.length = 18) (m2 : ∀ x ∈ xb, x.2.length = 18) (s1 : -9223372036854775808 ≤ se) (s2 : se ≤ 9223372036854775807) (s3 : -9223372036854775808 ≤ sh) (s4 : sh ≤ 9223372036854775807) (ht : Tabs w) :
    Calls Tryd.prog 13 #[.agg #[.int .i64 se, .int .i64 sh, .int .i64 p1, .string fi, .slice A1 n c1], .agg #[.int .i64 se, .int .i64 sh, .int .i64 p2, .string fi, .slice A2 m c2]] w fun e w' => e = .returned (.bool (sameT (xa.take m) xb)) ∧ Below w.heap.size w w' := by
  obtain ⟨I1, hI1⟩ : ∃ I : ByteArray, (⟨(Lib.itoa se).toArray⟩ : ByteArray) = I := ⟨_, rfl⟩
  obtain ⟨I2, hI2⟩ : ∃ I : ByteArray, (⟨(Lib.itoa sh).toArray⟩ : ByteArray) = I := ⟨_, rfl⟩
  have hA := fun (X : World) (hx : Tabs X) => identity_any se sh p1 fi (.slice A1 n c1) X s1 s2 s3 s4 rfl hx
  have hC := fun (X : World) (hx : Tabs X) => identity_any se sh p2 fi (.slice A2 m c2) X s1 s2 s3 s4 rfl hx
  rw [hI1, hI2] at hA hC
  obtain ⟨W, hW⟩ : ∃ W, (w.alloc (.cells #[.int .i64 se, .int .i64 sh, .int .i64 p1, .string fi, .slice A1 n c1] 24)).alloc (.cells #[.int .i64 se, .int .i64 sh, .int .i64 p2, .string fi, .slice A2 m c2] 24) = W := ⟨_, rfl⟩
  have b0 : Bk W w.heap.size #[.int .i64 se, .int .i64 sh, .int .i64 p1, .string fi, .slice A1 n c1] 24 := by rw [← hW]; exact (Bk.new _ _ _).alloc _
  have b1 : Bk W (w.heap.size + 1) #[.int .i64 se, .int .i64 sh, .int .i64 p2, .string fi, .slice A2 m c2] 24 := by rw [← hW]; exact bk_next _ _ _ _
  have hwW : Below w.heap.size w W := by rw [← hW]; (repeat (first | with_reducible exact Below.refl _ _ | with_reducible assumption | with_reducible refine Below.alloc0 ?_ _ | with_reducible refine Below.ext0 ?_ _ | with_reducible refine Below.drew ?_ | with_reducible refine below_drewN ?_ _ | (with_reducible refine Below.setCell (hp := ?hp) ?_ _; case hp => (first | (simp; done) | (simp; omega)))))
  have hsW : W.heap.size = w.heap.size + 1 + 1 := by rw [← hW]; simp
  have hzW : B ≤ W.heap.size := by omega
  have he := fun (X : World) (hX : Below W.heap.size W X) => equalF_any m A1 A2 (xa.take m) xb c1 c2 X B (elems_take (h1.keep ((hwW.mono hB).trans (hX.mono hzW)) (Nat.le_refl _)) m) (h2.keep ((hwW.mono hB).trans (hX.mono hzW)) (Nat.le_refl _)) (by have := hX.size; omega) (by rw [List.length_take]; omega) n2 (by omega) (fun x hx => m1 x (List.mem_of_mem_take hx)) m2
  have HC := Lib.hid (And.intro hA (And.intro hC (And.intro (ht.below hwW) (And.intro hwW he))))
  have c0 := b0.cell 0
  have c1' := b0.cell 1
  have c2' := b0.cell 2
  have c3 := b0.cell 3
  have c4 := b0.cell 4
  have l0 := b0.lt
  have d0 := b1.cell 0
  have d1 := b1.cell 1
  have d2 := b1.cell 2
  have d3 := b1.cell 3
  have d4 := b1.cell 4
  have l1 := b1.lt
  have hq := neq_three I1 I2 fi
  have hlt : ¬ (n : Int) < (m : Int) := by omega
  clear hA hC hI1 hI2 b0 b1 hwW hsW ht h1 h2 he n1 n2 m1 m2 hzW
  go_enter Tryd.func13, Tryd.ntmps13
  go_upto_region 1 with (fail)
  try rw [hW]
  clear hW
  refine region_planx W [([0, 2], [1, 3]), ([4, 5, 6, 7, 8, 9, 10, 11, 12, 13], [])] (Below.refl _ _) (by kernel_rfl) (by kernel_rfl) (fun u => ?_)
  refine plan_take (fun K9 h9 => ?_)
  simp only [List.map_cons, List.map_nil, pickO, List.getD_cons_zero, List.getD_cons_succ]
  repeat (go_big_quiet_step (fail))
  refine wpQuiet_nil (h9 _ ?_)
  clear h9 K9
  refine plan_run (fun K9 h9 => ?_)
  simp only [pickO, List.getD_cons_zero, List.getD_cons_succ]
  go_wp2_with (go_at_call 25; refine Calls.mono (HC.out.1 _ (HC.out.2.2.1.below (below_ext W _))) ?_; rintro e w' ⟨rfl, hbb⟩; obtain ⟨u, rfl⟩ := ext_more hbb; clear hbb)
  refine h9 _ _ mem_ext ?_
  clear h9 K9
  refine plan_run (fun K9 h9 => ?_)
  simp only [pickO, List.getD_cons_zero, List.getD_cons_succ]
  go_wp2_with (go_at_call 25; refine Calls.mono (HC.out.2.1 _ (HC.out.2.2.1.below (below_ext W _))) ?_; rintro e w' ⟨rfl, hbb⟩; obtain ⟨u, rfl⟩ := ext_more hbb; clear hbb)
  refine h9 _ _ mem_ext ?_
  clear h9 K9
  refine plan_next ?_
  refine plan_take (fun K9 h9 => ?_)
  simp only [List.map_cons, List.map_nil, pickO, List.getD_cons_zero, List.getD_cons_succ]
  repeat (go_big_quiet_step (fail))
  refine wpQuiet_nil (h9 _ ?_)
  clear h9 K9
  refine plan_next (plan_end ?_)
  go_upto_region 3 with (fail)
  refine region_planx W [([0, 1, 2, 3, 4, 5, 6, 7], [8]), ([9], [])] (below_ext W _) (by kernel_rfl) (by kernel_rfl) (fun u => ?_)
  refine plan_take (fun K9 h9 => ?_)
  simp only [List.map_cons, List.map_nil, pickO, List.getD_cons_zero, List.getD_cons_succ]
  repeat (go_big_quiet_step (fail))
  refine wpQuiet_nil (h9 _ ?_)
  clear h9 K9
  refine plan_run (fun K9 h9 => ?_)
  simp only [pickO, List.getD_cons_zero, List.getD_cons_succ]
  go_wp2_with (go_at_call 26; refine Calls.mono (HC.out.2.2.2.2 _ (below_ext W _)) ?_; rintro e w' ⟨rfl, hbb⟩; obtain ⟨u, rfl⟩ := ext_more hbb; clear hbb)
  refine h9 _ _ mem_ext ?_
  clear h9 K9
  refine plan_next ?_
  refine plan_take (fun K9 h9 => ?_)
  simp only [List.map_cons, List.map_nil, pickO, List.getD_cons_zero, List.getD_cons_succ]
  repeat (go_big_quiet_step (fail))
  refine wpQuiet_nil (h9 _ ?_)
  clear h9 K9
  refine plan_next (plan_end ?_)
  go_wp2_with fail
  go_ret
  exact ⟨rfl, HC.out.2.2.2.1.trans ((below_ext W _).mono HC.out.2.2.2.1.size)⟩
end Go.Proofs.YtojkpoikamcgkaaDoor
