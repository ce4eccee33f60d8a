/- Layer 12 (resolve): the number of a test. -/
import Derived.Test.YtecjhniomjmocaaResB
import Derived.Deep.QuietTactic
import Derived.WalkSmall
namespace Go.Proofs.Ytecjhniomjmocaa
open Go.RowKit
set_option linter.unusedVariables false
set_option linter.unusedSimpArgs false
attribute [local go_sem] ext_cell ext_frozen lt_ext ext_drew

theorem bytes_ne {a b : ByteArray} (h : a ≠ b) : (a.toList == b.toList) = false := by
  rw [beq_eq_false_iff_ne, ByteArray.toList_eq, ByteArray.toList_eq]
  exact fun e => h (Go.WideShapes.bytes_inj e)
section
variable {P : Program} {o : Oper} {a : Act} {b : Nat} {l : List (ByteArray × Value)}
/-- A look-up, with the question whether it is there, in a quiet walk. -/
theorem quiet_findS_ok {K : Act → Prop} {C : World → Prop} (mm x : Operand) (t : TypeId) (hop : o.op = Op.lookup t mm x true) (kt e : TypeId) (ht : P.underlying t = some (.map kt e)) (hk : P.underlying kt = some .string) (z : Value) (hz : ∀ w, (zeroValue e).run P w = .ok z w)
    (hm : a.eval mm = .map (some b)) (h : ∀ w, C w → StrMap w b l) (k : ByteArray) (hx : a.eval x = .string k) (hK : K (a.put o.dst (.tuple #[(findS k l).getD z, .bool (findS k l).isSome]))) : o.quiet P a C K := by
  refine ⟨_, fun w hC => ?_, hK⟩
  have hrun := (h w hC).look_ok ht hk (hz w) k
  unfold Oper.quietAt execOp
  simp only [hop, hm, hx, Sem.run_bind, hrun, Result.andThen_ok, Sem.run_pure]
  exact ⟨rfl, rfl⟩
end
/-- How the number of a test ends. -/
def numE (L : Nm) (t : Ts) : Ending :=
  if (numP L t).1 = 0 then .returned (.tuple #[.int .i64 (numP L t).2.1, .int .i64 (numP L t).2.2])
  else .panicked [{ v := .iface 89 (.agg #[.int .i64 (numP L t).1, .int .i64 t.2.2.2.2]), recovered := false }]
theorem numE_bad {L : Nm} {t : Ts} {e : Int} (h : numP L t = (e, 0, 0)) (he : e ≠ 0) : numE L t = .panicked [{ v := .iface 89 (.agg #[.int .i64 e, .int .i64 t.2.2.2.2]), recovered := false }] := by
  unfold numE
  rw [h]
  exact if_neg he
theorem numE_ok {L : Nm} {t : Ts} {a : Nat} {n : Int} (h : numP L t = (0, a, n)) : numE L t = .returned (.tuple #[.int .i64 a, .int .i64 n]) := by
  unfold numE
  rw [h]
  exact if_pos rfl
theorem idxB_lt {s : ByteArray} : ∀ {l : List ByteArray} {n : Nat}, idxB s l = some n → n < l.length
  | [], n, h => by cases h
  | x :: l, n, h => by
    unfold idxB at h
    by_cases e : s = x
    · rw [if_pos e] at h; cases h; simp
    · rw [if_neg e] at h
      cases hi : idxB s l with
      | none => rw [hi] at h; cases h
      | some m => rw [hi] at h; cases h; have := idxB_lt hi; simp; omega
theorem entsTo_all (s : ByteArray) (L : List ByteArray) : findS s (entsTo L L.length) = (idxB s L).map fun (n : Nat) => Value.int .i64 n := by rw [entsTo_find, List.take_length]
theorem attrs_all (s : ByteArray) : findS s (entsTo attrsN 10) = (idxB s attrsN).map fun (n : Nat) => Value.int .i64 n := entsTo_all s attrsN

theorem eqm_nil (w : World) : (binOp .eql 97 (.map none) (.map none)).run Try.prog w = .ok (.bool true) w := by kernel_rfl
theorem eqm_some (b : Nat) (w : World) : (binOp .eql 97 (.map (some b)) (.map none)).run Try.prog w = .ok (.bool false) w := by kernel_rfl
theorem full_of {a : ByteArray} (h : a ≠ noName) : a.toList.isEmpty = false := by
  rw [ByteArray.toList_eq]
  cases he : a.data.toList.isEmpty with
  | false => rfl
  | true =>
    exfalso
    apply h
    have : a.data.toList = [] := by simpa using he
    apply Go.WideShapes.bytes_inj
    rw [this]
    rfl
theorem empty_of : noName.toList.isEmpty = true := by rw [ByteArray.toList_eq]; rfl

set_option maxRecDepth 100000 in
set_option maxHeartbeats 4000000 in
theorem number_any (nm : ByteArray) (op : Int) (nn : ByteArray) (n att : Int) (sb : Nat) (L : Nm) (w : World) (hS : ScopeAt w sb L) (h1 : L.1.length ≤ 1000000) (h2 : L.2.length ≤ 1000000) :
    Calls Try.prog 42 #[.pointer (some ⟨sb, 0, none⟩), .agg #[.string nm, .int .i64 op, .string nn, .int .i64 n, .int .i64 att]] w fun e w' => e = numE L (nm, op, nn, n, att) ∧ Below w.heap.size w w' := by
  obtain ⟨ma, mn, m4, m5, m6, hb, hn, ha, h4, h5, h6⟩ := hS
  have cs := hb.cell
  have ls := hb.lt
  have HM := Lib.hid (And.intro hn (And.intro ha (And.intro h4 (And.intro h5 h6))))
  clear hb hn ha h4 h5 h6
  cases hi : idxB nm attrsN with
  | none =>
    have he := numE_bad (L := L) (t := (nm, op, nn, n, att)) (e := 8) (by unfold numP; rw [hi]) (by decide)
    rw [he]
    have Hf : Hid (findS nm (entsTo attrsN 10) = none) := Lib.hid (by rw [attrs_all, hi]; rfl)
    clear hi he
    go_enter Try.func42, Try.ntmps42
    go_wp2_with fail
    refine wp_region_ext _ (by kernel_rfl) (by kernel_rfl) ?_
    iterate 6 (go_big_quiet_step (fail))
    go_big_quiet_want
    refine quiet_findS_ok _ _ _ rfl 9 3 Try.underlying97 Try.underlying9 (.int .i64 0) zeroI rfl (fun w9 hw9 => by obtain ⟨u9, rfl⟩ := hw9; exact (HM.out.2.1.below (below_self _ _)).below (below_ext _ _)) nm rfl ?_
    rw [Hf.out, Option.getD_none, Option.isSome_none]
    go_simp
    go_big_quiet_on
    repeat (go_big_quiet_step (fail))
    refine wpQuiet_nil (fun v => ?_)
    go_wp2_with fail
    exact ⟨rfl, rfl, by (repeat (first | with_reducible exact Below.refl _ _ | with_reducible assumption | with_reducible refine Below.alloc0 ?_ _ | with_reducible refine Below.ext0 ?_ _ | with_reducible refine Below.drew ?_ | with_reducible refine below_drewN ?_ _ | (with_reducible refine Below.setCell (hp := ?hp) ?_ _; case hp => (first | (simp; done) | (simp; omega)))))⟩
  | some a =>
    have hal := idxB_lt hi
    have ha10 : a < 10 := hal
    have Hf : Hid (findS nm (entsTo attrsN 10) = some (.int .i64 a)) := Lib.hid (by rw [attrs_all, hi]; rfl)
    have hnum : numP L (nm, op, nn, n, att) = if op < 1 ∨ 6 < op ∨ (nn ≠ noName ∧ ¬ (a = 4 ∨ a = 5 ∨ a = 6)) then ((10, 0, 0) : Int × Nat × Int)
      else match (if nn = noName then some n else (idxB nn (tableN L a)).map fun (n : Nat) => (n : Int)) with
        | none => (8, 0, 0)
        | some n => if n < 0 ∨ 1000000000 < n then (2, 0, 0) else (0, a, n) := by unfold numP; rw [hi]; first | rfl | done
    clear hi hal
    obtain ⟨mo, hmo, hm1, hm2⟩ : ∃ mo : Option Nat, (findI (a : Int) [(4, .map (some m4)), (5, .map (some m5)), (6, .map (some m6))]).getD (.map none) = .map mo ∧ (mo = none ↔ ¬ (a = 4 ∨ a = 5 ∨ a = 6)) ∧ (∀ b, mo = some b → StrMap w b (entsTo (tableN L a) (tableN L a).length)) := by
      by_cases e4 : a = 4
      · subst e4
        exact ⟨some m4, rfl, by simp, fun b hb => by cases hb; exact HM.out.2.2.1⟩
      by_cases e5 : a = 5
      · subst e5
        exact ⟨some m5, rfl, by simp, fun b hb => by cases hb; exact HM.out.2.2.2.1⟩
      by_cases e6 : a = 6
      · subst e6
        exact ⟨some m6, rfl, by simp, fun b hb => by cases hb; exact HM.out.2.2.2.2⟩
      refine ⟨none, ?_, by simp [e4, e5, e6], fun b hb => by cases hb⟩
      have f4 : ¬ (a : Int) = 4 := by omega
      have f5 : ¬ (a : Int) = 5 := by omega
      have f6 : ¬ (a : Int) = 6 := by omega
      simp [findI, f4, f5, f6]
    have Hmo := Lib.hid hmo
    have H2 := Lib.hid hm2
    clear hmo hm2
    by_cases c1 : op < 1 ∨ 6 < op ∨ (nn ≠ noName ∧ ¬ (a = 4 ∨ a = 5 ∨ a = 6))
    · rw [if_pos c1] at hnum
      rw [numE_bad hnum (by decide)]
      clear hnum
      have c2 : op < 1 ∨ (¬ op < 1 ∧ 6 < op) ∨ (¬ op < 1 ∧ ¬ 6 < op ∧ nn ≠ noName ∧ mo = none) := by
        rcases c1 with h | h | ⟨h, h'⟩
        · exact .inl h
        · by_cases q : op < 1
          · exact .inl q
          · exact .inr (.inl ⟨q, h⟩)
        · by_cases q : op < 1
          · exact .inl q
          · by_cases q' : 6 < op
            · exact .inr (.inl ⟨q, q'⟩)
            · exact .inr (.inr ⟨q, q', h, hm1.2 h'⟩)
      clear c1 hm1
      rcases c2 with q1 | ⟨q1, q2⟩ | ⟨q1, q2, q3, rfl⟩
      · go_enter Try.func42, Try.ntmps42
        go_wp2_with fail
        refine wp_region_ext _ (by kernel_rfl) (by kernel_rfl) ?_
        iterate 6 (go_big_quiet_step (fail))
        go_big_quiet_want
        refine quiet_findS_ok _ _ _ rfl 9 3 Try.underlying97 Try.underlying9 (.int .i64 0) zeroI rfl (fun w9 hw9 => by obtain ⟨u9, rfl⟩ := hw9; exact (HM.out.2.1.below (below_self _ _)).below (below_ext _ _)) nm rfl ?_
        rw [Hf.out, Option.getD_some, Option.isSome_some]
        go_simp
        go_big_quiet_on
        repeat (go_big_quiet_step (fail))
        refine wpQuiet_nil (fun v => ?_)
        go_wp2_with (at_lookup; refine list_findI rfl _ _ _ rfl 3 97 Try.underlying98 Try.underlying3 (.map none) (zeroM _) rfl ((HM.out.1.below (below_self _ _)).below (below_ext _ _)) a rfl ?_; rw [Hmo.out])
        exact ⟨rfl, rfl, by (repeat (first | with_reducible exact Below.refl _ _ | with_reducible assumption | with_reducible refine Below.alloc0 ?_ _ | with_reducible refine Below.ext0 ?_ _ | with_reducible refine Below.drew ?_ | with_reducible refine below_drewN ?_ _ | (with_reducible refine Below.setCell (hp := ?hp) ?_ _; case hp => (first | (simp; done) | (simp; omega)))))⟩
      · go_enter Try.func42, Try.ntmps42
        go_wp2_with fail
        refine wp_region_ext _ (by kernel_rfl) (by kernel_rfl) ?_
        iterate 6 (go_big_quiet_step (fail))
        go_big_quiet_want
        refine quiet_findS_ok _ _ _ rfl 9 3 Try.underlying97 Try.underlying9 (.int .i64 0) zeroI rfl (fun w9 hw9 => by obtain ⟨u9, rfl⟩ := hw9; exact (HM.out.2.1.below (below_self _ _)).below (below_ext _ _)) nm rfl ?_
        rw [Hf.out, Option.getD_some, Option.isSome_some]
        go_simp
        go_big_quiet_on
        repeat (go_big_quiet_step (fail))
        refine wpQuiet_nil (fun v => ?_)
        go_wp2_with (at_lookup; refine list_findI rfl _ _ _ rfl 3 97 Try.underlying98 Try.underlying3 (.map none) (zeroM _) rfl ((HM.out.1.below (below_self _ _)).below (below_ext _ _)) a rfl ?_; rw [Hmo.out])
        exact ⟨rfl, rfl, by (repeat (first | with_reducible exact Below.refl _ _ | with_reducible assumption | with_reducible refine Below.alloc0 ?_ _ | with_reducible refine Below.ext0 ?_ _ | with_reducible refine Below.drew ?_ | with_reducible refine below_drewN ?_ _ | (with_reducible refine Below.setCell (hp := ?hp) ?_ _; case hp => (first | (simp; done) | (simp; omega)))))⟩
      · have q4 := full_of q3
        have hq := eqm_nil
        go_enter Try.func42, Try.ntmps42
        go_wp2_with fail
        refine wp_region_ext _ (by kernel_rfl) (by kernel_rfl) ?_
        iterate 6 (go_big_quiet_step (fail))
        go_big_quiet_want
        refine quiet_findS_ok _ _ _ rfl 9 3 Try.underlying97 Try.underlying9 (.int .i64 0) zeroI rfl (fun w9 hw9 => by obtain ⟨u9, rfl⟩ := hw9; exact (HM.out.2.1.below (below_self _ _)).below (below_ext _ _)) nm rfl ?_
        rw [Hf.out, Option.getD_some, Option.isSome_some]
        go_simp
        go_big_quiet_on
        repeat (go_big_quiet_step (fail))
        refine wpQuiet_nil (fun v => ?_)
        go_wp2_with (at_lookup; refine list_findI rfl _ _ _ rfl 3 97 Try.underlying98 Try.underlying3 (.map none) (zeroM _) rfl ((HM.out.1.below (below_self _ _)).below (below_ext _ _)) a rfl ?_; rw [Hmo.out])
        exact ⟨rfl, rfl, by (repeat (first | with_reducible exact Below.refl _ _ | with_reducible assumption | with_reducible refine Below.alloc0 ?_ _ | with_reducible refine Below.ext0 ?_ _ | with_reducible refine Below.drew ?_ | with_reducible refine below_drewN ?_ _ | (with_reducible refine Below.setCell (hp := ?hp) ?_ _; case hp => (first | (simp; done) | (simp; omega)))))⟩
    · rw [if_neg c1] at hnum
      have q1 : ¬ op < 1 := fun h => c1 (.inl h)
      have q2 : ¬ 6 < op := fun h => c1 (.inr (.inl h))
      have q3 : nn ≠ noName → ∃ b, mo = some b := fun h => by
        cases hmo : mo with
        | some b => exact ⟨b, rfl⟩
        | none => exact absurd (.inr (.inr ⟨h, hm1.1 hmo⟩)) c1
      clear c1 hm1
      by_cases qn : nn = noName
      · subst qn
        rw [if_pos rfl] at hnum
        change numP L (nm, op, noName, n, att) = (if n < 0 ∨ 1000000000 < n then ((2, 0, 0) : Int × Nat × Int) else (0, a, n)) at hnum
        have q4 := empty_of
        clear q3
        by_cases r1 : n < 0
        · rw [if_pos (.inl r1)] at hnum
          rw [numE_bad hnum (by decide)]
          clear hnum
          go_enter Try.func42, Try.ntmps42
          go_wp2_with fail
          refine wp_region_ext _ (by kernel_rfl) (by kernel_rfl) ?_
          iterate 6 (go_big_quiet_step (fail))
          go_big_quiet_want
          refine quiet_findS_ok _ _ _ rfl 9 3 Try.underlying97 Try.underlying9 (.int .i64 0) zeroI rfl (fun w9 hw9 => by obtain ⟨u9, rfl⟩ := hw9; exact (HM.out.2.1.below (below_self _ _)).below (below_ext _ _)) nm rfl ?_
          rw [Hf.out, Option.getD_some, Option.isSome_some]
          go_simp
          go_big_quiet_on
          repeat (go_big_quiet_step (fail))
          refine wpQuiet_nil (fun v => ?_)
          go_wp2_with (at_lookup; refine list_findI rfl _ _ _ rfl 3 97 Try.underlying98 Try.underlying3 (.map none) (zeroM _) rfl ((HM.out.1.below (below_self _ _)).below (below_ext _ _)) a rfl ?_; rw [Hmo.out])
          exact ⟨rfl, rfl, by (repeat (first | with_reducible exact Below.refl _ _ | with_reducible assumption | with_reducible refine Below.alloc0 ?_ _ | with_reducible refine Below.ext0 ?_ _ | with_reducible refine Below.drew ?_ | with_reducible refine below_drewN ?_ _ | (with_reducible refine Below.setCell (hp := ?hp) ?_ _; case hp => (first | (simp; done) | (simp; omega)))))⟩
        · by_cases r2 : 1000000000 < n
          · rw [if_pos (.inr r2)] at hnum
            rw [numE_bad hnum (by decide)]
            clear hnum
            go_enter Try.func42, Try.ntmps42
            go_wp2_with fail
            refine wp_region_ext _ (by kernel_rfl) (by kernel_rfl) ?_
            iterate 6 (go_big_quiet_step (fail))
            go_big_quiet_want
            refine quiet_findS_ok _ _ _ rfl 9 3 Try.underlying97 Try.underlying9 (.int .i64 0) zeroI rfl (fun w9 hw9 => by obtain ⟨u9, rfl⟩ := hw9; exact (HM.out.2.1.below (below_self _ _)).below (below_ext _ _)) nm rfl ?_
            rw [Hf.out, Option.getD_some, Option.isSome_some]
            go_simp
            go_big_quiet_on
            repeat (go_big_quiet_step (fail))
            refine wpQuiet_nil (fun v => ?_)
            go_wp2_with (at_lookup; refine list_findI rfl _ _ _ rfl 3 97 Try.underlying98 Try.underlying3 (.map none) (zeroM _) rfl ((HM.out.1.below (below_self _ _)).below (below_ext _ _)) a rfl ?_; rw [Hmo.out])
            exact ⟨rfl, rfl, by (repeat (first | with_reducible exact Below.refl _ _ | with_reducible assumption | with_reducible refine Below.alloc0 ?_ _ | with_reducible refine Below.ext0 ?_ _ | with_reducible refine Below.drew ?_ | with_reducible refine below_drewN ?_ _ | (with_reducible refine Below.setCell (hp := ?hp) ?_ _; case hp => (first | (simp; done) | (simp; omega)))))⟩
          · rw [if_neg (by omega)] at hnum
            rw [numE_ok hnum]
            clear hnum
            go_enter Try.func42, Try.ntmps42
            go_wp2_with fail
            refine wp_region_ext _ (by kernel_rfl) (by kernel_rfl) ?_
            iterate 6 (go_big_quiet_step (fail))
            go_big_quiet_want
            refine quiet_findS_ok _ _ _ rfl 9 3 Try.underlying97 Try.underlying9 (.int .i64 0) zeroI rfl (fun w9 hw9 => by obtain ⟨u9, rfl⟩ := hw9; exact (HM.out.2.1.below (below_self _ _)).below (below_ext _ _)) nm rfl ?_
            rw [Hf.out, Option.getD_some, Option.isSome_some]
            go_simp
            go_big_quiet_on
            repeat (go_big_quiet_step (fail))
            refine wpQuiet_nil (fun v => ?_)
            go_wp2_with (at_lookup; refine list_findI rfl _ _ _ rfl 3 97 Try.underlying98 Try.underlying3 (.map none) (zeroM _) rfl ((HM.out.1.below (below_self _ _)).below (below_ext _ _)) a rfl ?_; rw [Hmo.out])
            exact bodyPost_ret (v := .tuple #[.int .i64 a, .int .i64 n]) (by simp [results, Try.results42, go_sem]) rfl ⟨rfl, by (repeat (first | with_reducible exact Below.refl _ _ | with_reducible assumption | with_reducible refine Below.alloc0 ?_ _ | with_reducible refine Below.ext0 ?_ _ | with_reducible refine Below.drew ?_ | with_reducible refine below_drewN ?_ _ | (with_reducible refine Below.setCell (hp := ?hp) ?_ _; case hp => (first | (simp; done) | (simp; omega)))))⟩
      · obtain ⟨b, rfl⟩ := q3 qn
        rw [if_neg qn] at hnum
        have q4 := full_of qn
        have hq := eqm_some
        cases ht : idxB nn (tableN L a) with
        | none =>
          rw [ht] at hnum
          rw [numE_bad hnum (by decide)]
          have Ht : Hid (findS nn (entsTo (tableN L a) (tableN L a).length) = none) := Lib.hid (by rw [entsTo_all, ht]; rfl)
          clear ht hnum
          go_enter Try.func42, Try.ntmps42
          go_wp2_with fail
          refine wp_region_ext _ (by kernel_rfl) (by kernel_rfl) ?_
          iterate 6 (go_big_quiet_step (fail))
          go_big_quiet_want
          refine quiet_findS_ok _ _ _ rfl 9 3 Try.underlying97 Try.underlying9 (.int .i64 0) zeroI rfl (fun w9 hw9 => by obtain ⟨u9, rfl⟩ := hw9; exact (HM.out.2.1.below (below_self _ _)).below (below_ext _ _)) nm rfl ?_
          rw [Hf.out, Option.getD_some, Option.isSome_some]
          go_simp
          go_big_quiet_on
          repeat (go_big_quiet_step (fail))
          refine wpQuiet_nil (fun v => ?_)
          go_wp2_with (first | (at_lookup; refine list_findI rfl _ _ _ rfl 3 97 Try.underlying98 Try.underlying3 (.map none) (zeroM _) rfl ((HM.out.1.below (below_self _ _)).below (below_ext _ _)) a rfl ?_; rw [Hmo.out]) | (at_lookup; refine list_findS_ok rfl _ _ _ rfl 9 3 Try.underlying97 Try.underlying9 (.int .i64 0) (zeroI _) rfl (((H2.out b rfl).below (below_self _ _)).below (below_ext _ _)) nn rfl ?_; rw [Ht.out, Option.getD_none, Option.isSome_none]))
          exact ⟨rfl, rfl, by (repeat (first | with_reducible exact Below.refl _ _ | with_reducible assumption | with_reducible refine Below.alloc0 ?_ _ | with_reducible refine Below.ext0 ?_ _ | with_reducible refine Below.drew ?_ | with_reducible refine below_drewN ?_ _ | (with_reducible refine Below.setCell (hp := ?hp) ?_ _; case hp => (first | (simp; done) | (simp; omega)))))⟩
        | some k =>
          rw [ht] at hnum
          have hk := idxB_lt ht
          have hk2 : (tableN L a).length ≤ 1000000 := by
            unfold tableN
            split
            · exact h1
            · split
              · exact h2
              · decide
          have Ht : Hid (findS nn (entsTo (tableN L a) (tableN L a).length) = some (.int .i64 k)) := Lib.hid (by rw [entsTo_all, ht]; rfl)
          have hn2 : numP L (nm, op, nn, n, att) = (0, a, (k : Int)) := by
            rw [hnum]
            show (if (k : Int) < 0 ∨ 1000000000 < (k : Int) then ((2, 0, 0) : Int × Nat × Int) else (0, a, (k : Int))) = _
            rw [if_neg (by omega)]
          rw [numE_ok hn2]
          clear ht hnum hn2
          have k1 : ¬ (k : Int) < 0 := by omega
          have k2 : ¬ 1000000000 < (k : Int) := by omega
          clear hk hk2
          go_enter Try.func42, Try.ntmps42
          go_wp2_with fail
          refine wp_region_ext _ (by kernel_rfl) (by kernel_rfl) ?_
          iterate 6 (go_big_quiet_step (fail))
          go_big_quiet_want
          refine quiet_findS_ok _ _ _ rfl 9 3 Try.underlying97 Try.underlying9 (.int .i64 0) zeroI rfl (fun w9 hw9 => by obtain ⟨u9, rfl⟩ := hw9; exact (HM.out.2.1.below (below_self _ _)).below (below_ext _ _)) nm rfl ?_
          rw [Hf.out, Option.getD_some, Option.isSome_some]
          go_simp
          go_big_quiet_on
          repeat (go_big_quiet_step (fail))
          refine wpQuiet_nil (fun v => ?_)
          go_wp2_with (first | (at_lookup; refine list_findI rfl _ _ _ rfl 3 97 Try.underlying98 Try.underlying3 (.map none) (zeroM _) rfl ((HM.out.1.below (below_self _ _)).below (below_ext _ _)) a rfl ?_; rw [Hmo.out]) | (at_lookup; refine list_findS_ok rfl _ _ _ rfl 9 3 Try.underlying97 Try.underlying9 (.int .i64 0) (zeroI _) rfl (((H2.out b rfl).below (below_self _ _)).below (below_ext _ _)) nn rfl ?_; rw [Ht.out, Option.getD_some, Option.isSome_some]))
          exact bodyPost_ret (v := .tuple #[.int .i64 a, .int .i64 (k : Int)]) (by simp [results, Try.results42, go_sem]) rfl ⟨rfl, by (repeat (first | with_reducible exact Below.refl _ _ | with_reducible assumption | with_reducible refine Below.alloc0 ?_ _ | with_reducible refine Below.ext0 ?_ _ | with_reducible refine Below.drew ?_ | with_reducible refine below_drewN ?_ _ | (with_reducible refine Below.setCell (hp := ?hp) ?_ _; case hp => (first | (simp; done) | (simp; omega)))))⟩
end Go.Proofs.Ytecjhniomjmocaa
