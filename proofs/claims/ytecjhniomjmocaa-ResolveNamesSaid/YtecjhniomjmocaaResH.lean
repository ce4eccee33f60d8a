/- Layer 12 (resolve): the rule of an item; its panics are recovered. -/
import Derived.Test.YtecjhniomjmocaaResF
import Derived.Test.YtecjhniomjmocaaResG
import Derived.Defers
import Derived.Recover
namespace Go.Proofs.Ytecjhniomjmocaa
open Go.RowKit Go.ChangeAt
set_option linter.unusedVariables false
set_option linter.unusedSimpArgs false
attribute [local go_sem] ext_cell ext_frozen lt_ext ext_drew

def zeroC : Array Value := #[.int .i64 0, .string ⟨#[]⟩, .slice none 0 0, .int .i64 0, .int .i64 0, .int .i64 0, .int .i64 0, .int .i64 0]
set_option maxRecDepth 100000 in
set_option maxHeartbeats 2000000 in
theorem catch_idle (rb fb : Nat) (w : World) : CallsD Try.prog 35 #[.pointer (some ⟨rb, 0, none⟩), .pointer (some ⟨fb, 0, none⟩)] .returning w fun e u' w' => e = .returned (.tuple #[]) ∧ u' = .returning ∧ w' = w := by
  refine callsD_of_wpS Try.func35 rfl fun c₀ cs hu => ?_
  apply wpS_seq
  apply wpS_region
  simp [wpOpsS, go_sem, recoverD, hu, Try.ntmps35, Exit.thenS]
  refine wpS_of_wp ?_
  simp only [Array.replicate, List.replicate, List.setIfInBounds_toArray, List.set_cons_zero, List.set_cons_succ, List.append_toArray, List.cons_append, List.nil_append]
  go_wp2_with fail
  cases c₀
  simp_all [bodyPostS, results, Try.results35]
theorem assert_fault (v : Value) (w : World) : (Instr.typeAssert (.iface 89 v) 20 89 false).run Try.prog w = .ok v w := by
  unfold Instr.typeAssert
  simp only [Sem.run_bind, run_underlying Try.underlying89 w, Result.andThen_ok]
  simp
set_option maxRecDepth 100000 in
set_option maxHeartbeats 2000000 in
theorem catch_pan (rb fb : Nat) (er ot : Int) (v0 v1 v2 v3 v4 v5 v6 v7 x0 x1 : Value) (w : World) (hr : Bk w rb #[v0, v1, v2, v3, v4, v5, v6, v7] 54) (hf : Bk w fb #[x0, x1] 89) :
    CallsD Try.prog 35 #[.pointer (some ⟨rb, 0, none⟩), .pointer (some ⟨fb, 0, none⟩)] (.panicking [{ v := .iface 89 (.agg #[.int .i64 er, .int .i64 ot]), recovered := false }]) w fun e u' w' =>
      e = .returned (.tuple #[]) ∧ u' = .panicking [{ v := .iface 89 (.agg #[.int .i64 er, .int .i64 ot]), recovered := true }] ∧ Bk w' rb zeroC 54 ∧ Bk w' fb #[.int .i64 er, .int .i64 ot] 89 ∧ Only (fun g => g = rb ∨ g = fb) w w' := by
  refine callsD_of_wpS Try.func35 rfl fun c₀ cs hu => ?_
  apply wpS_seq
  apply wpS_region
  simp [wpOpsS, go_sem, recoverD, hu, Try.ntmps35, Exit.thenS]
  have c1 := hr.cell
  have z1 := hr.free
  have l1 := hr.lt
  have c2 := hf.cell
  have z2 := hf.free
  have l2 := hf.lt
  refine wpS_of_wp ?_
  simp only [Array.replicate, List.replicate, List.setIfInBounds_toArray, List.set_cons_zero, List.set_cons_succ, List.append_toArray, List.cons_append, List.nil_append]
  go_wp2_with fail
  have has := assert_fault
  have hne : ¬ rb = fb := bk_ne hr hf (by decide)
  have hne2 : ¬ fb = rb := fun h => hne h.symm
  have H := Lib.hid (And.intro hr hf)
  clear hr hf
  go_region
  have hB1 : Bk ((((((((w.setCell ⟨rb, 0, none⟩ (.int .i64 0)).setCell ⟨rb, 1, none⟩ (.string ⟨#[]⟩)).setCell ⟨rb, 2, none⟩ (.slice none 0 0)).setCell ⟨rb, 3, none⟩ (.int .i64 0)).setCell ⟨rb, 4, none⟩ (.int .i64 0)).setCell ⟨rb, 5, none⟩ (.int .i64 0)).setCell ⟨rb, 6, none⟩ (.int .i64 0)).setCell ⟨rb, 7, none⟩ (.int .i64 0)) rb zeroC 54 := by
    have h := (((((((H.out.1.set_ 0 (.int .i64 0)).set_ 1 (.string ⟨#[]⟩)).set_ 2 (.slice none 0 0)).set_ 3 (.int .i64 0)).set_ 4 (.int .i64 0)).set_ 5 (.int .i64 0)).set_ 6 (.int .i64 0)).set_ 7 (.int .i64 0)
    simp only [List.setIfInBounds_toArray, List.set_cons_zero, List.set_cons_succ] at h
    exact h
  have hB2 : Bk ((((((((w.setCell ⟨rb, 0, none⟩ (.int .i64 0)).setCell ⟨rb, 1, none⟩ (.string ⟨#[]⟩)).setCell ⟨rb, 2, none⟩ (.slice none 0 0)).setCell ⟨rb, 3, none⟩ (.int .i64 0)).setCell ⟨rb, 4, none⟩ (.int .i64 0)).setCell ⟨rb, 5, none⟩ (.int .i64 0)).setCell ⟨rb, 6, none⟩ (.int .i64 0)).setCell ⟨rb, 7, none⟩ (.int .i64 0)) fb #[x0, x1] 89 :=
    (((((((H.out.2.far hne2 _).far hne2 _).far hne2 _).far hne2 _).far hne2 _).far hne2 _).far hne2 _).far hne2 _
  have hB3 := (hB2.set_ 0 (.int .i64 er)).set_ 1 (.int .i64 ot)
  simp only [List.setIfInBounds_toArray, List.set_cons_zero, List.set_cons_succ] at hB3
  have hB4 := (hB1.far (p := ⟨fb, 0, none⟩) hne (.int .i64 er)).far (p := ⟨fb, 1, none⟩) hne (.int .i64 ot)
  change bodyPostS Try.prog Try.f35 _ _ _ Exit.normal _ _ _
  cases c₀
  simp [bodyPostS, results, Try.results35]
  exact ⟨hB4.drew, hB3.drew, by (repeat (first | with_reducible exact Only.refl _ _ | with_reducible assumption | with_reducible refine Only.alloc ?_ _ | with_reducible refine Only.ext0 ?_ _ | with_reducible refine Only.drew ?_ | with_reducible refine Only.drewN ?_ _ | (with_reducible refine Only.set_ (hp := ?hp) ?_ _; case hp => (first | (left; rfl) | (left; left; rfl) | (right; simp; done) | (right; simp; omega) | (left; simp; done) | (left; simp [*]; done)))))⟩
end Go.Proofs.Ytecjhniomjmocaa
