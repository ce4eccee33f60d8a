/- Layer 12 (resolve): the rule of an item. -/
import Derived.Test.YtecjhniomjmocaaResH
namespace Go.Proofs.Ytecjhniomjmocaa
open Go.RowKit Go.ChangeAt
set_option linter.unusedVariables false
set_option linter.unusedSimpArgs false
attribute [local go_sem] ext_cell ext_frozen lt_ext ext_drew

set_option maxRecDepth 100000 in
set_option maxHeartbeats 4000000 in
theorem rule_twice (sb : Nat) (kd : Int) (nm : ByteArray) (AW : Option Addr) (k cw : Nat) (n rn rd sn sd att : Int) (w : World) :
    Calls Try.prog 29 #[.pointer (some ⟨sb, 0, none⟩), .agg #[.int .i64 kd, .string nm, .slice AW k cw, .int .i64 n, .int .i64 rn, .int .i64 rd, .int .i64 sn, .int .i64 sd, .int .i64 att], .bool true] w fun e w' =>
      e = .returned (.tuple #[.agg zeroC, .agg #[.int .i64 9, .int .i64 (-1)]]) ∧ Below w.heap.size w w' := by
  have hmf : ∀ (fn : Fn) (first cap : Array Value) (w : World), (Instr.makeFunc fn first cap).run Try.prog w = .ok (.func fn first cap) w := fun _ _ _ _ => rfl
  go_enter_defers Try.func29, Try.ntmps29
  go_wp2_with fail
  refine leaves_cons (f := 35) (args := #[.pointer (some ⟨w.heap.size + 1, 0, none⟩), .pointer (some ⟨w.heap.size + 1 + 1, 0, none⟩)]) (by simp) (by simp [go_sem]) ?_
  refine (catch_pan (w.heap.size + 1) (w.heap.size + 1 + 1) 9 (-1) _ _ _ _ _ _ _ _ _ _ _ ((bk_new_at _ _ _ _ (by simp)).alloc _) (bk_new_at _ _ _ _ (by simp))).mono ?_
  rintro e u' w'' ⟨rfl, rfl, b1, b2, ho⟩
  have c1 := b1.cell
  have c2 := b2.cell
  have l1 := b1.lt
  have l2 := b2.lt
  simp [Leaves, settle, results, Try.results29, go_sem, c1, c2, l1, l2, zeroC]
  exact (Below.alloc0 (Below.alloc0 (below_self _ _) _) _).trans (ho.to_below (B := w.heap.size) (fun g hg => by omega) (by simp; omega))
set_option maxRecDepth 100000 in
set_option maxHeartbeats 4000000 in
theorem rule_kind1 (sb : Nat) (kd : Int) (nm : ByteArray) (AW : Option Addr) (k cw : Nat) (n rn rd sn sd att : Int) (w : World) (h : kd < 1) :
    Calls Try.prog 29 #[.pointer (some ⟨sb, 0, none⟩), .agg #[.int .i64 kd, .string nm, .slice AW k cw, .int .i64 n, .int .i64 rn, .int .i64 rd, .int .i64 sn, .int .i64 sd, .int .i64 att], .bool false] w fun e w' =>
      e = .returned (.tuple #[.agg zeroC, .agg #[.int .i64 10, .int .i64 (-1)]]) ∧ Below w.heap.size w w' := by
  have hmf : ∀ (fn : Fn) (first cap : Array Value) (w : World), (Instr.makeFunc fn first cap).run Try.prog w = .ok (.func fn first cap) w := fun _ _ _ _ => rfl
  go_enter_defers Try.func29, Try.ntmps29
  go_wp2_with fail
  refine leaves_cons (f := 35) (args := #[.pointer (some ⟨w.heap.size + 1, 0, none⟩), .pointer (some ⟨w.heap.size + 1 + 1, 0, none⟩)]) (by simp) (by simp [go_sem]) ?_
  refine (catch_pan (w.heap.size + 1) (w.heap.size + 1 + 1) 10 (-1) _ _ _ _ _ _ _ _ _ _ _ ((bk_new_at _ _ _ _ (by simp)).alloc _) (bk_new_at _ _ _ _ (by simp))).mono ?_
  rintro e u' w'' ⟨rfl, rfl, b1, b2, ho⟩
  have c1 := b1.cell
  have c2 := b2.cell
  have l1 := b1.lt
  have l2 := b2.lt
  simp [Leaves, settle, results, Try.results29, go_sem, c1, c2, l1, l2, zeroC]
  exact (Below.alloc0 (Below.alloc0 (below_self _ _) _) _).trans (ho.to_below (B := w.heap.size) (fun g hg => by omega) (by simp; omega))
set_option maxRecDepth 100000 in
set_option maxHeartbeats 4000000 in
theorem rule_kind2 (sb : Nat) (kd : Int) (nm : ByteArray) (AW : Option Addr) (k cw : Nat) (n rn rd sn sd att : Int) (w : World) (h0 : ¬ kd < 1) (h : 7 < kd) :
    Calls Try.prog 29 #[.pointer (some ⟨sb, 0, none⟩), .agg #[.int .i64 kd, .string nm, .slice AW k cw, .int .i64 n, .int .i64 rn, .int .i64 rd, .int .i64 sn, .int .i64 sd, .int .i64 att], .bool false] w fun e w' =>
      e = .returned (.tuple #[.agg zeroC, .agg #[.int .i64 10, .int .i64 (-1)]]) ∧ Below w.heap.size w w' := by
  have hmf : ∀ (fn : Fn) (first cap : Array Value) (w : World), (Instr.makeFunc fn first cap).run Try.prog w = .ok (.func fn first cap) w := fun _ _ _ _ => rfl
  go_enter_defers Try.func29, Try.ntmps29
  go_wp2_with fail
  refine leaves_cons (f := 35) (args := #[.pointer (some ⟨w.heap.size + 1, 0, none⟩), .pointer (some ⟨w.heap.size + 1 + 1, 0, none⟩)]) (by simp) (by simp [go_sem]) ?_
  refine (catch_pan (w.heap.size + 1) (w.heap.size + 1 + 1) 10 (-1) _ _ _ _ _ _ _ _ _ _ _ ((bk_new_at _ _ _ _ (by simp)).alloc _) (bk_new_at _ _ _ _ (by simp))).mono ?_
  rintro e u' w'' ⟨rfl, rfl, b1, b2, ho⟩
  have c1 := b1.cell
  have c2 := b2.cell
  have l1 := b1.lt
  have l2 := b2.lt
  simp [Leaves, settle, results, Try.results29, go_sem, c1, c2, l1, l2, zeroC]
  exact (Below.alloc0 (Below.alloc0 (below_self _ _) _) _).trans (ho.to_below (B := w.heap.size) (fun g hg => by omega) (by simp; omega))
set_option maxRecDepth 100000 in
set_option maxHeartbeats 4000000 in
theorem rule_range (sb : Nat) (kd : Int) (nm : ByteArray) (AW : Option Addr) (k cw : Nat) (n rn rd sn sd att : Int) (w : World) (ws : List (List Ts)) (h0 : ¬ kd < 1) (h : ¬ 7 < kd) (f1 : fits kd) (f2 : fits n) (f3 : fits rn) (f4 : fits rd) (f5 : fits sn) (f6 : fits sd) (hq : inRangeP (kd, nm, ws, n, (rn, rd), (sn, sd), att) = false) :
    Calls Try.prog 29 #[.pointer (some ⟨sb, 0, none⟩), .agg #[.int .i64 kd, .string nm, .slice AW k cw, .int .i64 n, .int .i64 rn, .int .i64 rd, .int .i64 sn, .int .i64 sd, .int .i64 att], .bool false] w fun e w' =>
      e = .returned (.tuple #[.agg zeroC, .agg #[.int .i64 2, .int .i64 (-1)]]) ∧ Below w.heap.size w w' := by
  have hmf : ∀ (fn : Fn) (first cap : Array Value) (w : World), (Instr.makeFunc fn first cap).run Try.prog w = .ok (.func fn first cap) w := fun _ _ _ _ => rfl
  go_enter_defers Try.func29, Try.ntmps29
  go_wp2_with (go_at_call 36; refine (inRange_any kd nm AW k cw n rn rd sn sd att ws _ f1 f2 f3 f4 f5 f6).mono ?_; rw [hq]; rintro e w9 ⟨rfl, hb⟩; obtain ⟨u, rfl⟩ := ext_of hb; clear hb)
  refine leaves_cons (f := 35) (args := #[.pointer (some ⟨w.heap.size + 1, 0, none⟩), .pointer (some ⟨w.heap.size + 1 + 1, 0, none⟩)]) (by simp) (by simp [go_sem]) ?_
  refine (catch_pan (w.heap.size + 1) (w.heap.size + 1 + 1) 2 (-1) _ _ _ _ _ _ _ _ _ _ _ (((bk_new_at _ _ _ _ (by simp)).alloc _).ext _) ((bk_new_at _ _ _ _ (by simp)).ext _)).mono ?_
  rintro e u' w'' ⟨rfl, rfl, b1, b2, ho⟩
  have c1 := b1.cell
  have c2 := b2.cell
  have l1 := b1.lt
  have l2 := b2.lt
  simp [Leaves, settle, results, Try.results29, go_sem, c1, c2, l1, l2, zeroC]
  exact (Below.ext0 (Below.alloc0 (Below.alloc0 (below_self _ _) _) _) _).trans (ho.to_below (B := w.heap.size) (fun g hg => by omega) (by have := size_ext (((w.alloc (.cells #[.int .i64 kd, .string nm, .slice AW k cw, .int .i64 n, .int .i64 rn, .int .i64 rd, .int .i64 sn, .int .i64 sd, .int .i64 att] 57)).alloc (.cells zeroC 54)).alloc (.cells #[.int .i64 0, .int .i64 0] 89)) u; simp at this; unfold zeroC at this; omega))
end Go.Proofs.Ytecjhniomjmocaa
