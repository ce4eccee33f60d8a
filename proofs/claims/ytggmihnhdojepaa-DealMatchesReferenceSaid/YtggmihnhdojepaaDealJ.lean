/- Layer 1 (money), Split: what it calls. -/
import Derived.Test.YtggmihnhdojepaaDealI
import Derived.Test.YtggmihnhdojepaaMoneyQ
import Derived.LoopN
import Derived.BigRegion
namespace Go.Proofs.Ytggmihnhdojepaa
open Go.RowKit
set_option linter.unusedVariables false
set_option linter.unusedSimpArgs false
attribute [local go_sem] ext_cell ext_frozen lt_ext ext_drew

def goodW (z : Int) : Prop := 0 ≤ z ∧ z ≤ 1000000000
theorem badw_any (n : Int) (w : World) (h : goodW n) : Calls Try.prog 54 #[.int .i64 n] w fun e w' => e = .returned (.bool false) ∧ w = w' := by
  obtain ⟨h1, h2⟩ := h
  go_enter Try.func54, Try.ntmps54
  go_wp2_with fail
  go_ret
  exact ⟨ret_bool (by simp; omega), rfl⟩
set_option maxHeartbeats 1000000 in
theorem indexW_any (w : World) (B : Nat) (A : Option Addr) (cap : Nat) (zs : List Int) (h : Elems tInt w B A zs) (hm : zs.length ≤ 9223372036854775807) (hg : ∀ z ∈ zs, goodW z) :
    Calls Try.prog 62 #[.slice A zs.length cap, .func (.func 54) #[] #[]] w fun e w' => e = .returned (.int .i64 (-1)) ∧ w = w' := by
  have HG := Lib.hid hg
  clear hg
  go_enter Try.func62, Try.ntmps62
  go_wp2
  go_loop [5, 8] (fun _ i => ∃ k : Nat, k ≤ zs.length ∧ i = .int .i64 k) (fun _ i => zs.length - (intOf i).toNat)
  case atStart => exact ⟨0, by omega, rfl⟩
  case round =>
    obtain ⟨k, hk, rfl⟩ := hrel
    by_cases hlt : k < zs.length
    · obtain ⟨b, off, z, rfl, _, Hz, Hk, hcell, hlo, hhi⟩ := h.pick_int hlt
      have Hgz := Lib.hid (HG.out z (List.mem_of_getElem? Hk.out))
      go_wp2_with (go_at_call 54; refine (badw_any _ _ Hgz.out).mono ?_; rintro e w' ⟨rfl, rfl⟩)
      go_round
      case rel => exact ⟨k + 1, by omega, by go_num⟩
      case measure => simp [intOf]; omega
    · go_wp2
      go_ret
      exact ⟨rfl, rfl⟩
theorem containsW_any (w : World) (B n : Nat) (A : Option Addr) (cap : Nat) (zs : List Int) (h : Elems tInt w B A zs) (hn : zs.length = n) (hm : n ≤ 9223372036854775807) (hg : ∀ z ∈ zs, goodW z) :
    Calls Try.prog 55 #[.slice A n cap, .func (.func 54) #[] #[]] w fun e w' => e = .returned (.bool false) ∧ w = w' := by
  subst hn
  go_enter Try.func55, Try.ntmps55
  go_wp2_with (go_at_call 62; refine (indexW_any _ B _ _ _ h hm hg).mono ?_; rintro e w' ⟨rfl, rfl⟩)
  go_ret
  exact ⟨rfl, rfl⟩
set_option maxHeartbeats 1000000 in
theorem sum_any (w : World) (B : Nat) (A : Option Addr) (cap : Nat) (zs : List Int) (h : Elems tInt w B A zs) (hm : zs.length ≤ 1000000) (hv : zs.all validB = true) :
    Calls Try.prog 56 #[.slice A zs.length cap] w fun e w' => e = .returned (.int .i64 (sumI zs)) ∧ w = w' := by
  have Hv := Lib.hid hv
  clear hv
  go_enter Try.func56, Try.ntmps56
  go_wp2
  go_loop [3, 5, 8] (fun n _ i => ∃ k : Nat, k ≤ zs.length ∧ i = .int .i64 k ∧ n = .int .i64 (sumI (zs.take k))) (fun _ _ i => zs.length - (intOf i).toNat)
  case atStart => exact ⟨0, by omega, rfl, rfl⟩
  case round =>
    obtain ⟨k, hk, rfl, rfl⟩ := hrel
    obtain ⟨s1, s2⟩ := sumI_bd k zs Hv.out hk
    by_cases hlt : k < zs.length
    · obtain ⟨b, off, z, rfl, _, Hz, Hk, hcell, hlo, hhi⟩ := h.pick_int hlt
      obtain ⟨s3, s4⟩ := sumI_bd (k + 1) zs Hv.out (by omega)
      have Ht := Lib.hid (sumI_take Hk.out)
      have Ht' := Ht.out
      rw [Ht'] at s3 s4
      clear Ht'
      generalize hS : sumI (zs.take k) = S at *
      have HS := Lib.hid hS
      clear hS
      go_wp2
      go_round
      case rel => exact ⟨k + 1, by omega, by go_num, by rw [Ht.out]⟩
      case measure => simp [intOf]; omega
    · go_wp2
      go_ret
      exact ⟨ret_int (by rw [List.take_of_length_le (by omega)]), rfl⟩
theorem sum_is (s : Int) (w : World) (B n : Nat) (A : Option Addr) (cap : Nat) (zs : List Int) (h : Elems tInt w B A zs) (hn : zs.length = n) (hm : n ≤ 1000000) (hv : Hid (zs.all validB = true)) (hs : Hid (sumI zs = s)) :
    Calls Try.prog 56 #[.slice A n cap] w fun e w' => e = .returned (.int .i64 s) ∧ w = w' := by
  subst hn
  exact (sum_any w B A cap zs h hm hv.out).mono fun e w' ⟨he, hw⟩ => ⟨by rw [he, hs.out], hw⟩


/-! ### the closures -/
theorem Calls.in_same {P : Program} {f : FuncId} {args : Array Value} {W : World} {v : Value} (h : Calls P f args W fun e w' => e = .returned v ∧ W = w') : Calls P f args W fun e w'' => e = .returned v ∧ w'' = W :=
  h.mono fun _ _ ⟨he, hb⟩ => ⟨he, hb.symm⟩
/-- What the closures of Split look at. -/
structure SpIs (W : World) (ps pn pw pa pf lb : Nat) (tl : TypeId) (cp : Nat) (n a b c al : Int) : Prop where
  sign : Bk W ps #[.int .i64 1] 3
  num : Bk W pn #[.int .i64 n] 3
  wts : Bk W pw #[.slice (some ⟨lb, 0, none⟩) 3 cp] 58
  all : Bk W pa #[.int .i64 al] 3
  fn : Bk W pf #[.func (.func 57) #[] #[.pointer (some ⟨ps, 0, none⟩), .pointer (some ⟨pn, 0, none⟩), .pointer (some ⟨pw, 0, none⟩), .pointer (some ⟨pa, 0, none⟩)]] 94
  row : Bk W lb #[.int .i64 a, .int .i64 b, .int .i64 c] tl
section
variable {W : World} {ps pn pw pa pf lb : Nat} {tl : TypeId} {cp : Nat} {n a b c al : Int}
theorem SpIs.only {S : Nat → Prop} {W' : World} (h : SpIs W ps pn pw pa pf lb tl cp n a b c al) (ho : Only S W W') (hn : ∀ g, g = ps ∨ g = pn ∨ g = pw ∨ g = pa ∨ g = pf ∨ g = lb → ¬ S g) : SpIs W' ps pn pw pa pf lb tl cp n a b c al :=
  ⟨h.sign.only ho (hn _ (by simp)), h.num.only ho (hn _ (by simp)), h.wts.only ho (hn _ (by simp)), h.all.only ho (hn _ (by simp)), h.fn.only ho (hn _ (by simp)), h.row.only ho (hn _ (by simp))⟩

set_option maxHeartbeats 1000000 in
theorem rest_any (i : Nat) (x X : Int) (h : SpIs W ps pn pw pa pf lb tl cp n a b c al) (hi : i < 3) (hx : (#[.int .i64 a, .int .i64 b, .int .i64 c] : Array Value)[i]? = some (.int .i64 x)) (hX : n * x = X) (h1 : 0 ≤ X) (h2 : X ≤ 1000000000000000000) (h3 : 0 < al) (h4 : al ≤ 1000000000) (hn : goodW n) :
    Calls Try.prog 57 #[.int .i64 i, .pointer (some ⟨ps, 0, none⟩), .pointer (some ⟨pn, 0, none⟩), .pointer (some ⟨pw, 0, none⟩), .pointer (some ⟨pa, 0, none⟩)] W fun e w' => e = .returned (.int .i64 (X % al)) ∧ ∃ q, w' = W.drewN q := by
  have c1 := h.sign.cell
  have c2 := h.num.cell
  have c3 := h.wts.cell
  have c4 := h.all.cell
  have l1 := h.sign.lt
  have l2 := h.num.lt
  have l3 := h.wts.lt
  have l4 := h.all.lt
  have l5 := h.row.lt
  have c5 : W.cell? ⟨lb, i, none⟩ = some (.int .i64 x) := by rw [h.row.cell]; exact hx
  obtain ⟨n1, n2⟩ := hn
  have r1 := Int.emod_nonneg X (show al ≠ 0 by omega)
  have r2 := Int.emod_lt_of_pos X h3
  have i1 : (i : Int) < 3 := by omega
  clear h hx
  go_enter Try.func57, Try.ntmps57
  go_wp2_with fail
  go_quiet (fail)
  go_wp2_with fail
  go_ret
  exact ⟨rfl, nq, rfl⟩
theorem SpIs.drewN (h : SpIs W ps pn pw pa pf lb tl cp n a b c al) (q : Nat) : SpIs (W.drewN q) ps pn pw pa pf lb tl cp n a b c al := ⟨h.sign, h.num, h.wts, h.all, h.fn, h.row⟩

set_option maxHeartbeats 1000000 in
theorem cmp_any (i j : Nat) (x X y Y : Int) (h : SpIs W ps pn pw pa pf lb tl cp n a b c al) (hi : i < 3) (hx : (#[.int .i64 a, .int .i64 b, .int .i64 c] : Array Value)[i]? = some (.int .i64 x)) (hX : n * x = X) (h1 : 0 ≤ X) (h2 : X ≤ 1000000000000000000)
    (hj : j < 3) (hy : (#[.int .i64 a, .int .i64 b, .int .i64 c] : Array Value)[j]? = some (.int .i64 y)) (hY : n * y = Y) (k1 : 0 ≤ Y) (k2 : Y ≤ 1000000000000000000) (h3 : 0 < al) (h4 : al ≤ 1000000000) (hn : goodW n) :
    Calls Try.prog 59 #[.int .i64 i, .int .i64 j, .pointer (some ⟨pf, 0, none⟩)] W fun e w' => e = .returned (.int .i64 (Y % al - X % al)) ∧ ∃ q, w' = W.drewN q := by
  have cf := h.fn.cell
  have lf := h.fn.lt
  have HH := Lib.hid h
  have Hx := Lib.hid (And.intro hx hX)
  have Hy := Lib.hid (And.intro hy hY)
  have HN := Lib.hid hn
  have r1 := Int.emod_nonneg X (show al ≠ 0 by omega)
  have r2 := Int.emod_lt_of_pos X h3
  have r3 := Int.emod_nonneg Y (show al ≠ 0 by omega)
  have r4 := Int.emod_lt_of_pos Y h3
  clear h hx hX hy hY hn
  go_enter Try.func59, Try.ntmps59
  go_wp2_with fail
  go_quiet ((go_at_call 57; first | with_reducible exact Calls.quiet_of (rest_any j y Y (HH.out.drewN _) hj Hy.out.1 Hy.out.2 k1 k2 h3 h4 HN.out) | with_reducible exact Calls.quiet_of (rest_any i x X (HH.out.drewN _) hi Hx.out.1 Hx.out.2 h1 h2 h3 h4 HN.out)))
  go_wp2_with fail
  go_ret
  exact ⟨rfl, nq, rfl⟩

/-- The order of three rests, the greatest first, the earlier first among equals. -/
def ord3 (r1 r2 r3 : Int) : Nat × Nat × Nat :=
  if r1 < r2 then (if r2 < r3 then (2, 1, 0) else if r1 < r3 then (1, 2, 0) else (1, 0, 2))
  else (if r2 < r3 then (if r1 < r3 then (2, 0, 1) else (0, 2, 1)) else (0, 1, 2))

set_option maxRecDepth 100000 in
set_option maxHeartbeats 4000000 in
theorem ins_any (ob : Nat) (X1 X2 X3 : Int) (h : SpIs W ps pn pw pa pf lb tl cp n a b c al) (ho : Bk W ob #[.int .i64 0, .int .i64 1, .int .i64 2] 3) (hob : ob ≠ ps ∧ ob ≠ pn ∧ ob ≠ pw ∧ ob ≠ pa ∧ ob ≠ pf ∧ ob ≠ lb) (co : Nat)
    (e1 : n * a = X1) (e2 : n * b = X2) (e3 : n * c = X3) (x1 : 0 ≤ X1 ∧ X1 ≤ 1000000000000000000) (x2 : 0 ≤ X2 ∧ X2 ≤ 1000000000000000000) (x3 : 0 ≤ X3 ∧ X3 ≤ 1000000000000000000) (h3 : 0 < al) (h4 : al ≤ 1000000000) (hn : goodW n) :
    Calls Try.prog 64 #[.slice (some ⟨ob, 0, none⟩) 3 co, .int .i64 0, .int .i64 3, .func (.func 59) #[] #[.pointer (some ⟨pf, 0, none⟩)]] W
      fun e w' => e = .returned (.tuple #[]) ∧ Bk w' ob #[.int .i64 ((ord3 (X1 % al) (X2 % al) (X3 % al)).1 : Int), .int .i64 ((ord3 (X1 % al) (X2 % al) (X3 % al)).2.1 : Int), .int .i64 ((ord3 (X1 % al) (X2 % al) (X3 % al)).2.2 : Int)] 3 ∧ Only (fun g => g = ob) W w' := by
  have r1 := Int.emod_nonneg X1 (show al ≠ 0 by omega)
  have r2 := Int.emod_lt_of_pos X1 h3
  have r3 := Int.emod_nonneg X2 (show al ≠ 0 by omega)
  have r4 := Int.emod_lt_of_pos X2 h3
  have r5 := Int.emod_nonneg X3 (show al ≠ 0 by omega)
  have r6 := Int.emod_lt_of_pos X3 h3
  have hC : Hid (∀ W', Only (fun g => g = ob) W W' → (Calls Try.prog 59 #[.int .i64 1, .int .i64 0, .pointer (some ⟨pf, 0, none⟩)] W' fun e w' => e = .returned (.int .i64 (X1 % al - X2 % al)) ∧ ∃ q, w' = W'.drewN q) ∧
      (Calls Try.prog 59 #[.int .i64 2, .int .i64 1, .pointer (some ⟨pf, 0, none⟩)] W' fun e w' => e = .returned (.int .i64 (X2 % al - X3 % al)) ∧ ∃ q, w' = W'.drewN q) ∧
      (Calls Try.prog 59 #[.int .i64 2, .int .i64 0, .pointer (some ⟨pf, 0, none⟩)] W' fun e w' => e = .returned (.int .i64 (X1 % al - X3 % al)) ∧ ∃ q, w' = W'.drewN q)) := Lib.hid fun W' hW => by
    have hh := h.only hW (by rintro g (rfl | rfl | rfl | rfl | rfl | rfl) <;> omega)
    exact ⟨cmp_any 1 0 b X2 a X1 hh (by omega) rfl e2 x2.1 x2.2 (by omega) rfl e1 x1.1 x1.2 h3 h4 hn, cmp_any 2 1 c X3 b X2 hh (by omega) rfl e3 x3.1 x3.2 (by omega) rfl e2 x2.1 x2.2 h3 h4 hn, cmp_any 2 0 c X3 a X1 hh (by omega) rfl e3 x3.1 x3.2 (by omega) rfl e1 x1.1 x1.2 h3 h4 hn⟩
  generalize X1 % al = R1 at *
  generalize X2 % al = R2 at *
  generalize X3 % al = R3 at *
  have co := ho.cell
  have fo := ho.free
  have lo := ho.lt
  have HO := Lib.hid ho
  have wr1 : IntKind.i64.wrap 1 = 1 := by rw [IntKind.wrap_i64]; rfl
  have wr0 : IntKind.i64.wrap 0 = 0 := by rw [IntKind.wrap_i64]; rfl
  clear h ho hob e1 e2 e3 x1 x2 x3 hn
  unfold ord3
  by_cases q1 : R1 < R2
  · by_cases q2 : R2 < R3
    · have q3 : R1 < R3 := by omega
      rw [if_pos q1, if_pos q2]
      go_enter Try.func64, Try.ntmps64
      go_wp2_with fail
      refine wp_loop_rounds 3 ?_
      rw [rounds_succ]
      go_wp2_with fail
      refine wp_loop_rounds 4 ?_
      rw [rounds_succ]
      go_wp2_with fail
      go_quiet ((go_at_call 59; refine Calls.quiet_of (hC.out _ ?_).1; have hy := Only.refl (fun g => g = ob) W; (repeat (first | with_reducible exact Only.refl _ _ | with_reducible assumption | with_reducible refine Only.alloc ?_ _ | with_reducible refine Only.ext0 ?_ _ | with_reducible refine Only.drew ?_ | with_reducible refine Only.drewN ?_ _ | (with_reducible refine Only.set_ (hp := ?hp) ?_ _; case hp => (first | (left; rfl) | (left; left; rfl) | (right; simp; done) | (right; simp; omega) | (left; simp; done) | (left; simp [*]; done)))))))
      go_wp2_with fail
      go_big_region
      go_wp2_with fail
      rw [rounds_succ]
      go_wp2_with fail
      go_quiet (fail)
      go_wp2_with fail
      rw [rounds_succ]
      refine forget (fun Y => Bk Y ob #[.int .i64 1, .int .i64 0, .int .i64 2] 3 ∧ Only (fun g => g = ob) W Y) ⟨((HO.out).set_ 1 (.int .i64 0)).set_ 0 (.int .i64 1), ?_⟩ ?_
      · (repeat (first | with_reducible exact Only.refl _ _ | with_reducible assumption | with_reducible refine Only.alloc ?_ _ | with_reducible refine Only.ext0 ?_ _ | with_reducible refine Only.drew ?_ | with_reducible refine Only.drewN ?_ _ | (with_reducible refine Only.set_ (hp := ?hp) ?_ _; case hp => (first | (left; rfl) | (left; left; rfl) | (right; simp; done) | (right; simp; omega) | (left; simp; done) | (left; simp [*]; done)))))
      clear co fo lo HO
      rintro Y ⟨ho, hon⟩
      have co := ho.cell
      have fo := ho.free
      have lo := ho.lt
      have HY := Lib.hid (And.intro ho hon)
      clear ho hon
      go_wp2_with fail
      refine wp_loop_rounds 4 ?_
      rw [rounds_succ]
      go_wp2_with fail
      go_quiet ((go_at_call 59; refine Calls.quiet_of (hC.out _ ?_).2.2; have hy := HY.out.2; (repeat (first | with_reducible exact Only.refl _ _ | with_reducible assumption | with_reducible refine Only.alloc ?_ _ | with_reducible refine Only.ext0 ?_ _ | with_reducible refine Only.drew ?_ | with_reducible refine Only.drewN ?_ _ | (with_reducible refine Only.set_ (hp := ?hp) ?_ _; case hp => (first | (left; rfl) | (left; left; rfl) | (right; simp; done) | (right; simp; omega) | (left; simp; done) | (left; simp [*]; done)))))))
      go_wp2_with fail
      go_big_region
      go_wp2_with fail
      rw [rounds_succ]
      go_wp2_with fail
      go_quiet ((go_at_call 59; refine Calls.quiet_of (hC.out _ ?_).2.1; have hy := HY.out.2; (repeat (first | with_reducible exact Only.refl _ _ | with_reducible assumption | with_reducible refine Only.alloc ?_ _ | with_reducible refine Only.ext0 ?_ _ | with_reducible refine Only.drew ?_ | with_reducible refine Only.drewN ?_ _ | (with_reducible refine Only.set_ (hp := ?hp) ?_ _; case hp => (first | (left; rfl) | (left; left; rfl) | (right; simp; done) | (right; simp; omega) | (left; simp; done) | (left; simp [*]; done)))))))
      go_wp2_with fail
      go_big_region
      go_wp2_with fail
      rw [rounds_succ]
      go_wp2_with fail
      go_quiet (fail)
      go_wp2_with fail
      rw [rounds_succ]
      refine forget (fun Y => Bk Y ob #[.int .i64 2, .int .i64 1, .int .i64 0] 3 ∧ Only (fun g => g = ob) W Y) ⟨((((HY.out.1).set_ 2 (.int .i64 0)).set_ 1 (.int .i64 2)).set_ 1 (.int .i64 1)).set_ 0 (.int .i64 2), ?_⟩ ?_
      · have hy := HY.out.2
        (repeat (first | with_reducible exact Only.refl _ _ | with_reducible assumption | with_reducible refine Only.alloc ?_ _ | with_reducible refine Only.ext0 ?_ _ | with_reducible refine Only.drew ?_ | with_reducible refine Only.drewN ?_ _ | (with_reducible refine Only.set_ (hp := ?hp) ?_ _; case hp => (first | (left; rfl) | (left; left; rfl) | (right; simp; done) | (right; simp; omega) | (left; simp; done) | (left; simp [*]; done)))))
      clear co fo lo HY
      rintro Y ⟨ho, hon⟩
      have co := ho.cell
      have fo := ho.free
      have lo := ho.lt
      have HY := Lib.hid (And.intro ho hon)
      clear ho hon
      go_wp2_with fail
      go_end0
      exact ⟨rfl, HY.out.1, HY.out.2⟩
    · by_cases q3 : R1 < R3
      · rw [if_pos q1, if_neg q2, if_pos q3]
        go_enter Try.func64, Try.ntmps64
        go_wp2_with fail
        refine wp_loop_rounds 3 ?_
        rw [rounds_succ]
        go_wp2_with fail
        refine wp_loop_rounds 4 ?_
        rw [rounds_succ]
        go_wp2_with fail
        go_quiet ((go_at_call 59; refine Calls.quiet_of (hC.out _ ?_).1; have hy := Only.refl (fun g => g = ob) W; (repeat (first | with_reducible exact Only.refl _ _ | with_reducible assumption | with_reducible refine Only.alloc ?_ _ | with_reducible refine Only.ext0 ?_ _ | with_reducible refine Only.drew ?_ | with_reducible refine Only.drewN ?_ _ | (with_reducible refine Only.set_ (hp := ?hp) ?_ _; case hp => (first | (left; rfl) | (left; left; rfl) | (right; simp; done) | (right; simp; omega) | (left; simp; done) | (left; simp [*]; done)))))))
        go_wp2_with fail
        go_big_region
        go_wp2_with fail
        rw [rounds_succ]
        go_wp2_with fail
        go_quiet (fail)
        go_wp2_with fail
        rw [rounds_succ]
        refine forget (fun Y => Bk Y ob #[.int .i64 1, .int .i64 0, .int .i64 2] 3 ∧ Only (fun g => g = ob) W Y) ⟨((HO.out).set_ 1 (.int .i64 0)).set_ 0 (.int .i64 1), ?_⟩ ?_
        · (repeat (first | with_reducible exact Only.refl _ _ | with_reducible assumption | with_reducible refine Only.alloc ?_ _ | with_reducible refine Only.ext0 ?_ _ | with_reducible refine Only.drew ?_ | with_reducible refine Only.drewN ?_ _ | (with_reducible refine Only.set_ (hp := ?hp) ?_ _; case hp => (first | (left; rfl) | (left; left; rfl) | (right; simp; done) | (right; simp; omega) | (left; simp; done) | (left; simp [*]; done)))))
        clear co fo lo HO
        rintro Y ⟨ho, hon⟩
        have co := ho.cell
        have fo := ho.free
        have lo := ho.lt
        have HY := Lib.hid (And.intro ho hon)
        clear ho hon
        go_wp2_with fail
        refine wp_loop_rounds 4 ?_
        rw [rounds_succ]
        go_wp2_with fail
        go_quiet ((go_at_call 59; refine Calls.quiet_of (hC.out _ ?_).2.2; have hy := HY.out.2; (repeat (first | with_reducible exact Only.refl _ _ | with_reducible assumption | with_reducible refine Only.alloc ?_ _ | with_reducible refine Only.ext0 ?_ _ | with_reducible refine Only.drew ?_ | with_reducible refine Only.drewN ?_ _ | (with_reducible refine Only.set_ (hp := ?hp) ?_ _; case hp => (first | (left; rfl) | (left; left; rfl) | (right; simp; done) | (right; simp; omega) | (left; simp; done) | (left; simp [*]; done)))))))
        go_wp2_with fail
        go_big_region
        go_wp2_with fail
        rw [rounds_succ]
        go_wp2_with fail
        go_quiet ((go_at_call 59; refine Calls.quiet_of (hC.out _ ?_).2.1; have hy := HY.out.2; (repeat (first | with_reducible exact Only.refl _ _ | with_reducible assumption | with_reducible refine Only.alloc ?_ _ | with_reducible refine Only.ext0 ?_ _ | with_reducible refine Only.drew ?_ | with_reducible refine Only.drewN ?_ _ | (with_reducible refine Only.set_ (hp := ?hp) ?_ _; case hp => (first | (left; rfl) | (left; left; rfl) | (right; simp; done) | (right; simp; omega) | (left; simp; done) | (left; simp [*]; done)))))))
        go_wp2_with fail
        rw [rounds_succ]
        refine forget (fun Y => Bk Y ob #[.int .i64 1, .int .i64 2, .int .i64 0] 3 ∧ Only (fun g => g = ob) W Y) ⟨((HY.out.1).set_ 2 (.int .i64 0)).set_ 1 (.int .i64 2), ?_⟩ ?_
        · have hy := HY.out.2
          (repeat (first | with_reducible exact Only.refl _ _ | with_reducible assumption | with_reducible refine Only.alloc ?_ _ | with_reducible refine Only.ext0 ?_ _ | with_reducible refine Only.drew ?_ | with_reducible refine Only.drewN ?_ _ | (with_reducible refine Only.set_ (hp := ?hp) ?_ _; case hp => (first | (left; rfl) | (left; left; rfl) | (right; simp; done) | (right; simp; omega) | (left; simp; done) | (left; simp [*]; done)))))
        clear co fo lo HY
        rintro Y ⟨ho, hon⟩
        have co := ho.cell
        have fo := ho.free
        have lo := ho.lt
        have HY := Lib.hid (And.intro ho hon)
        clear ho hon
        go_wp2_with fail
        go_end0
        exact ⟨rfl, HY.out.1, HY.out.2⟩
      · rw [if_pos q1, if_neg q2, if_neg q3]
        go_enter Try.func64, Try.ntmps64
        go_wp2_with fail
        refine wp_loop_rounds 3 ?_
        rw [rounds_succ]
        go_wp2_with fail
        refine wp_loop_rounds 4 ?_
        rw [rounds_succ]
        go_wp2_with fail
        go_quiet ((go_at_call 59; refine Calls.quiet_of (hC.out _ ?_).1; have hy := Only.refl (fun g => g = ob) W; (repeat (first | with_reducible exact Only.refl _ _ | with_reducible assumption | with_reducible refine Only.alloc ?_ _ | with_reducible refine Only.ext0 ?_ _ | with_reducible refine Only.drew ?_ | with_reducible refine Only.drewN ?_ _ | (with_reducible refine Only.set_ (hp := ?hp) ?_ _; case hp => (first | (left; rfl) | (left; left; rfl) | (right; simp; done) | (right; simp; omega) | (left; simp; done) | (left; simp [*]; done)))))))
        go_wp2_with fail
        go_big_region
        go_wp2_with fail
        rw [rounds_succ]
        go_wp2_with fail
        go_quiet (fail)
        go_wp2_with fail
        rw [rounds_succ]
        refine forget (fun Y => Bk Y ob #[.int .i64 1, .int .i64 0, .int .i64 2] 3 ∧ Only (fun g => g = ob) W Y) ⟨((HO.out).set_ 1 (.int .i64 0)).set_ 0 (.int .i64 1), ?_⟩ ?_
        · (repeat (first | with_reducible exact Only.refl _ _ | with_reducible assumption | with_reducible refine Only.alloc ?_ _ | with_reducible refine Only.ext0 ?_ _ | with_reducible refine Only.drew ?_ | with_reducible refine Only.drewN ?_ _ | (with_reducible refine Only.set_ (hp := ?hp) ?_ _; case hp => (first | (left; rfl) | (left; left; rfl) | (right; simp; done) | (right; simp; omega) | (left; simp; done) | (left; simp [*]; done)))))
        clear co fo lo HO
        rintro Y ⟨ho, hon⟩
        have co := ho.cell
        have fo := ho.free
        have lo := ho.lt
        have HY := Lib.hid (And.intro ho hon)
        clear ho hon
        go_wp2_with fail
        refine wp_loop_rounds 4 ?_
        rw [rounds_succ]
        go_wp2_with fail
        go_quiet ((go_at_call 59; refine Calls.quiet_of (hC.out _ ?_).2.2; have hy := HY.out.2; (repeat (first | with_reducible exact Only.refl _ _ | with_reducible assumption | with_reducible refine Only.alloc ?_ _ | with_reducible refine Only.ext0 ?_ _ | with_reducible refine Only.drew ?_ | with_reducible refine Only.drewN ?_ _ | (with_reducible refine Only.set_ (hp := ?hp) ?_ _; case hp => (first | (left; rfl) | (left; left; rfl) | (right; simp; done) | (right; simp; omega) | (left; simp; done) | (left; simp [*]; done)))))))
        go_wp2_with fail
        rw [rounds_succ]
        refine forget (fun Y => Bk Y ob #[.int .i64 1, .int .i64 0, .int .i64 2] 3 ∧ Only (fun g => g = ob) W Y) ⟨HY.out.1, ?_⟩ ?_
        · have hy := HY.out.2
          (repeat (first | with_reducible exact Only.refl _ _ | with_reducible assumption | with_reducible refine Only.alloc ?_ _ | with_reducible refine Only.ext0 ?_ _ | with_reducible refine Only.drew ?_ | with_reducible refine Only.drewN ?_ _ | (with_reducible refine Only.set_ (hp := ?hp) ?_ _; case hp => (first | (left; rfl) | (left; left; rfl) | (right; simp; done) | (right; simp; omega) | (left; simp; done) | (left; simp [*]; done)))))
        clear co fo lo HY
        rintro Y ⟨ho, hon⟩
        have co := ho.cell
        have fo := ho.free
        have lo := ho.lt
        have HY := Lib.hid (And.intro ho hon)
        clear ho hon
        go_wp2_with fail
        go_end0
        exact ⟨rfl, HY.out.1, HY.out.2⟩
  · by_cases q2 : R2 < R3
    · by_cases q3 : R1 < R3
      · rw [if_neg q1, if_pos q2, if_pos q3]
        go_enter Try.func64, Try.ntmps64
        go_wp2_with fail
        refine wp_loop_rounds 3 ?_
        rw [rounds_succ]
        go_wp2_with fail
        refine wp_loop_rounds 4 ?_
        rw [rounds_succ]
        go_wp2_with fail
        go_quiet ((go_at_call 59; refine Calls.quiet_of (hC.out _ ?_).1; have hy := Only.refl (fun g => g = ob) W; (repeat (first | with_reducible exact Only.refl _ _ | with_reducible assumption | with_reducible refine Only.alloc ?_ _ | with_reducible refine Only.ext0 ?_ _ | with_reducible refine Only.drew ?_ | with_reducible refine Only.drewN ?_ _ | (with_reducible refine Only.set_ (hp := ?hp) ?_ _; case hp => (first | (left; rfl) | (left; left; rfl) | (right; simp; done) | (right; simp; omega) | (left; simp; done) | (left; simp [*]; done)))))))
        go_wp2_with fail
        rw [rounds_succ]
        refine forget (fun Y => Bk Y ob #[.int .i64 0, .int .i64 1, .int .i64 2] 3 ∧ Only (fun g => g = ob) W Y) ⟨HO.out, ?_⟩ ?_
        · (repeat (first | with_reducible exact Only.refl _ _ | with_reducible assumption | with_reducible refine Only.alloc ?_ _ | with_reducible refine Only.ext0 ?_ _ | with_reducible refine Only.drew ?_ | with_reducible refine Only.drewN ?_ _ | (with_reducible refine Only.set_ (hp := ?hp) ?_ _; case hp => (first | (left; rfl) | (left; left; rfl) | (right; simp; done) | (right; simp; omega) | (left; simp; done) | (left; simp [*]; done)))))
        clear co fo lo HO
        rintro Y ⟨ho, hon⟩
        have co := ho.cell
        have fo := ho.free
        have lo := ho.lt
        have HY := Lib.hid (And.intro ho hon)
        clear ho hon
        go_wp2_with fail
        refine wp_loop_rounds 4 ?_
        rw [rounds_succ]
        go_wp2_with fail
        go_quiet ((go_at_call 59; refine Calls.quiet_of (hC.out _ ?_).2.1; have hy := HY.out.2; (repeat (first | with_reducible exact Only.refl _ _ | with_reducible assumption | with_reducible refine Only.alloc ?_ _ | with_reducible refine Only.ext0 ?_ _ | with_reducible refine Only.drew ?_ | with_reducible refine Only.drewN ?_ _ | (with_reducible refine Only.set_ (hp := ?hp) ?_ _; case hp => (first | (left; rfl) | (left; left; rfl) | (right; simp; done) | (right; simp; omega) | (left; simp; done) | (left; simp [*]; done)))))))
        go_wp2_with fail
        go_big_region
        go_wp2_with fail
        rw [rounds_succ]
        go_wp2_with fail
        go_quiet ((go_at_call 59; refine Calls.quiet_of (hC.out _ ?_).2.2; have hy := HY.out.2; (repeat (first | with_reducible exact Only.refl _ _ | with_reducible assumption | with_reducible refine Only.alloc ?_ _ | with_reducible refine Only.ext0 ?_ _ | with_reducible refine Only.drew ?_ | with_reducible refine Only.drewN ?_ _ | (with_reducible refine Only.set_ (hp := ?hp) ?_ _; case hp => (first | (left; rfl) | (left; left; rfl) | (right; simp; done) | (right; simp; omega) | (left; simp; done) | (left; simp [*]; done)))))))
        go_wp2_with fail
        go_big_region
        go_wp2_with fail
        rw [rounds_succ]
        go_wp2_with fail
        go_quiet (fail)
        go_wp2_with fail
        rw [rounds_succ]
        refine forget (fun Y => Bk Y ob #[.int .i64 2, .int .i64 0, .int .i64 1] 3 ∧ Only (fun g => g = ob) W Y) ⟨((((HY.out.1).set_ 2 (.int .i64 1)).set_ 1 (.int .i64 2)).set_ 1 (.int .i64 0)).set_ 0 (.int .i64 2), ?_⟩ ?_
        · have hy := HY.out.2
          (repeat (first | with_reducible exact Only.refl _ _ | with_reducible assumption | with_reducible refine Only.alloc ?_ _ | with_reducible refine Only.ext0 ?_ _ | with_reducible refine Only.drew ?_ | with_reducible refine Only.drewN ?_ _ | (with_reducible refine Only.set_ (hp := ?hp) ?_ _; case hp => (first | (left; rfl) | (left; left; rfl) | (right; simp; done) | (right; simp; omega) | (left; simp; done) | (left; simp [*]; done)))))
        clear co fo lo HY
        rintro Y ⟨ho, hon⟩
        have co := ho.cell
        have fo := ho.free
        have lo := ho.lt
        have HY := Lib.hid (And.intro ho hon)
        clear ho hon
        go_wp2_with fail
        go_end0
        exact ⟨rfl, HY.out.1, HY.out.2⟩
      · rw [if_neg q1, if_pos q2, if_neg q3]
        go_enter Try.func64, Try.ntmps64
        go_wp2_with fail
        refine wp_loop_rounds 3 ?_
        rw [rounds_succ]
        go_wp2_with fail
        refine wp_loop_rounds 4 ?_
        rw [rounds_succ]
        go_wp2_with fail
        go_quiet ((go_at_call 59; refine Calls.quiet_of (hC.out _ ?_).1; have hy := Only.refl (fun g => g = ob) W; (repeat (first | with_reducible exact Only.refl _ _ | with_reducible assumption | with_reducible refine Only.alloc ?_ _ | with_reducible refine Only.ext0 ?_ _ | with_reducible refine Only.drew ?_ | with_reducible refine Only.drewN ?_ _ | (with_reducible refine Only.set_ (hp := ?hp) ?_ _; case hp => (first | (left; rfl) | (left; left; rfl) | (right; simp; done) | (right; simp; omega) | (left; simp; done) | (left; simp [*]; done)))))))
        go_wp2_with fail
        rw [rounds_succ]
        refine forget (fun Y => Bk Y ob #[.int .i64 0, .int .i64 1, .int .i64 2] 3 ∧ Only (fun g => g = ob) W Y) ⟨HO.out, ?_⟩ ?_
        · (repeat (first | with_reducible exact Only.refl _ _ | with_reducible assumption | with_reducible refine Only.alloc ?_ _ | with_reducible refine Only.ext0 ?_ _ | with_reducible refine Only.drew ?_ | with_reducible refine Only.drewN ?_ _ | (with_reducible refine Only.set_ (hp := ?hp) ?_ _; case hp => (first | (left; rfl) | (left; left; rfl) | (right; simp; done) | (right; simp; omega) | (left; simp; done) | (left; simp [*]; done)))))
        clear co fo lo HO
        rintro Y ⟨ho, hon⟩
        have co := ho.cell
        have fo := ho.free
        have lo := ho.lt
        have HY := Lib.hid (And.intro ho hon)
        clear ho hon
        go_wp2_with fail
        refine wp_loop_rounds 4 ?_
        rw [rounds_succ]
        go_wp2_with fail
        go_quiet ((go_at_call 59; refine Calls.quiet_of (hC.out _ ?_).2.1; have hy := HY.out.2; (repeat (first | with_reducible exact Only.refl _ _ | with_reducible assumption | with_reducible refine Only.alloc ?_ _ | with_reducible refine Only.ext0 ?_ _ | with_reducible refine Only.drew ?_ | with_reducible refine Only.drewN ?_ _ | (with_reducible refine Only.set_ (hp := ?hp) ?_ _; case hp => (first | (left; rfl) | (left; left; rfl) | (right; simp; done) | (right; simp; omega) | (left; simp; done) | (left; simp [*]; done)))))))
        go_wp2_with fail
        go_big_region
        go_wp2_with fail
        rw [rounds_succ]
        go_wp2_with fail
        go_quiet ((go_at_call 59; refine Calls.quiet_of (hC.out _ ?_).2.2; have hy := HY.out.2; (repeat (first | with_reducible exact Only.refl _ _ | with_reducible assumption | with_reducible refine Only.alloc ?_ _ | with_reducible refine Only.ext0 ?_ _ | with_reducible refine Only.drew ?_ | with_reducible refine Only.drewN ?_ _ | (with_reducible refine Only.set_ (hp := ?hp) ?_ _; case hp => (first | (left; rfl) | (left; left; rfl) | (right; simp; done) | (right; simp; omega) | (left; simp; done) | (left; simp [*]; done)))))))
        go_wp2_with fail
        rw [rounds_succ]
        refine forget (fun Y => Bk Y ob #[.int .i64 0, .int .i64 2, .int .i64 1] 3 ∧ Only (fun g => g = ob) W Y) ⟨((HY.out.1).set_ 2 (.int .i64 1)).set_ 1 (.int .i64 2), ?_⟩ ?_
        · have hy := HY.out.2
          (repeat (first | with_reducible exact Only.refl _ _ | with_reducible assumption | with_reducible refine Only.alloc ?_ _ | with_reducible refine Only.ext0 ?_ _ | with_reducible refine Only.drew ?_ | with_reducible refine Only.drewN ?_ _ | (with_reducible refine Only.set_ (hp := ?hp) ?_ _; case hp => (first | (left; rfl) | (left; left; rfl) | (right; simp; done) | (right; simp; omega) | (left; simp; done) | (left; simp [*]; done)))))
        clear co fo lo HY
        rintro Y ⟨ho, hon⟩
        have co := ho.cell
        have fo := ho.free
        have lo := ho.lt
        have HY := Lib.hid (And.intro ho hon)
        clear ho hon
        go_wp2_with fail
        go_end0
        exact ⟨rfl, HY.out.1, HY.out.2⟩
    · rw [if_neg q1, if_neg q2]
      go_enter Try.func64, Try.ntmps64
      go_wp2_with fail
      refine wp_loop_rounds 3 ?_
      rw [rounds_succ]
      go_wp2_with fail
      refine wp_loop_rounds 4 ?_
      rw [rounds_succ]
      go_wp2_with fail
      go_quiet ((go_at_call 59; refine Calls.quiet_of (hC.out _ ?_).1; have hy := Only.refl (fun g => g = ob) W; (repeat (first | with_reducible exact Only.refl _ _ | with_reducible assumption | with_reducible refine Only.alloc ?_ _ | with_reducible refine Only.ext0 ?_ _ | with_reducible refine Only.drew ?_ | with_reducible refine Only.drewN ?_ _ | (with_reducible refine Only.set_ (hp := ?hp) ?_ _; case hp => (first | (left; rfl) | (left; left; rfl) | (right; simp; done) | (right; simp; omega) | (left; simp; done) | (left; simp [*]; done)))))))
      go_wp2_with fail
      rw [rounds_succ]
      refine forget (fun Y => Bk Y ob #[.int .i64 0, .int .i64 1, .int .i64 2] 3 ∧ Only (fun g => g = ob) W Y) ⟨HO.out, ?_⟩ ?_
      · (repeat (first | with_reducible exact Only.refl _ _ | with_reducible assumption | with_reducible refine Only.alloc ?_ _ | with_reducible refine Only.ext0 ?_ _ | with_reducible refine Only.drew ?_ | with_reducible refine Only.drewN ?_ _ | (with_reducible refine Only.set_ (hp := ?hp) ?_ _; case hp => (first | (left; rfl) | (left; left; rfl) | (right; simp; done) | (right; simp; omega) | (left; simp; done) | (left; simp [*]; done)))))
      clear co fo lo HO
      rintro Y ⟨ho, hon⟩
      have co := ho.cell
      have fo := ho.free
      have lo := ho.lt
      have HY := Lib.hid (And.intro ho hon)
      clear ho hon
      go_wp2_with fail
      refine wp_loop_rounds 4 ?_
      rw [rounds_succ]
      go_wp2_with fail
      go_quiet ((go_at_call 59; refine Calls.quiet_of (hC.out _ ?_).2.1; have hy := HY.out.2; (repeat (first | with_reducible exact Only.refl _ _ | with_reducible assumption | with_reducible refine Only.alloc ?_ _ | with_reducible refine Only.ext0 ?_ _ | with_reducible refine Only.drew ?_ | with_reducible refine Only.drewN ?_ _ | (with_reducible refine Only.set_ (hp := ?hp) ?_ _; case hp => (first | (left; rfl) | (left; left; rfl) | (right; simp; done) | (right; simp; omega) | (left; simp; done) | (left; simp [*]; done)))))))
      go_wp2_with fail
      rw [rounds_succ]
      refine forget (fun Y => Bk Y ob #[.int .i64 0, .int .i64 1, .int .i64 2] 3 ∧ Only (fun g => g = ob) W Y) ⟨HY.out.1, ?_⟩ ?_
      · have hy := HY.out.2
        (repeat (first | with_reducible exact Only.refl _ _ | with_reducible assumption | with_reducible refine Only.alloc ?_ _ | with_reducible refine Only.ext0 ?_ _ | with_reducible refine Only.drew ?_ | with_reducible refine Only.drewN ?_ _ | (with_reducible refine Only.set_ (hp := ?hp) ?_ _; case hp => (first | (left; rfl) | (left; left; rfl) | (right; simp; done) | (right; simp; omega) | (left; simp; done) | (left; simp [*]; done)))))
      clear co fo lo HY
      rintro Y ⟨ho, hon⟩
      have co := ho.cell
      have fo := ho.free
      have lo := ho.lt
      have HY := Lib.hid (And.intro ho hon)
      clear ho hon
      go_wp2_with fail
      go_end0
      exact ⟨rfl, HY.out.1, HY.out.2⟩
end
end Go.Proofs.Ytggmihnhdojepaa
