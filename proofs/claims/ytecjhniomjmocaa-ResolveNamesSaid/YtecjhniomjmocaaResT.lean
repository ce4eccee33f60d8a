/- Layer 12 (resolve): the law's own item with one alternative, or none. -/
import Derived.Test.YtecjhniomjmocaaResS
namespace Go.Proofs.Ytecjhniomjmocaa
open Go.RowKit Go.ChangeAt
set_option linter.unusedVariables false
set_option linter.unusedSimpArgs false
attribute [local go_sem] ext_cell ext_frozen lt_ext ext_drew

def itC (kd : Int) (nm : ByteArray) (v : Value) : Array Value := #[.int .i64 kd, .string nm, v, .int .i64 0, .int .i64 0, .int .i64 0, .int .i64 0, .int .i64 0, .int .i64 7]
def RuleF (w : World) (kd : Int) (nm : ByteArray) (A : Option Addr) (n c : Nat) (e : Ending) (w' : World) : Prop :=
  ∃ g, e = .returned (.agg #[.int .i64 kd, .string nm, .slice (some ⟨g, 0, none⟩) 1 1, .int .i64 0, .int .i64 0, .int .i64 0, .int .i64 0, .int .i64 0, .int .i64 7]) ∧ w.heap.size ≤ g ∧ Bk w' g #[.slice A n c] 62 ∧ Below w.heap.size w w'
set_option maxRecDepth 100000 in
set_option maxHeartbeats 1000000 in
theorem rule_one (kd : Int) (nm : ByteArray) (A : Option Addr) (n c : Nat) (w : World) (hn : 0 < n) : Calls Try.prog 25 #[.int .i64 kd, .string nm, .slice A n c] w (RuleF w kd nm A n c) := by
  go_enter Try.func25, Try.ntmps25
  have hn' : 0 < (n : Int) := by omega
  go_wp2_with fail
  refine bodyPost_ret (v := .agg #[.int .i64 kd, .string nm, .slice (some ⟨w.heap.size + 2, 0, none⟩) 1 1, .int .i64 0, .int .i64 0, .int .i64 0, .int .i64 0, .int .i64 0, .int .i64 7]) (by simp [results, Try.results25, go_sem]) rfl ⟨w.heap.size + 2, rfl, by omega, ?_, ?_⟩
  · exact bk_new_at _ _ _ _ (by simp)
  · (repeat (first | with_reducible exact Below.refl _ _ | with_reducible assumption | with_reducible refine Below.alloc0 ?_ _ | with_reducible refine Below.ext0 ?_ _ | with_reducible refine Below.drew ?_ | with_reducible refine below_drewN ?_ _ | (with_reducible refine Below.setCell (hp := ?hp) ?_ _; case hp => (first | (simp; done) | (simp; omega)))))
set_option maxRecDepth 100000 in
set_option maxHeartbeats 1000000 in
theorem rule_none (kd : Int) (nm : ByteArray) (w : World) : Calls Try.prog 25 #[.int .i64 kd, .string nm, .slice none 0 0] w fun e w' =>
    e = .returned (.agg #[.int .i64 kd, .string nm, .slice none 0 0, .int .i64 0, .int .i64 0, .int .i64 0, .int .i64 0, .int .i64 0, .int .i64 7]) ∧ Below w.heap.size w w' := by
  go_enter Try.func25, Try.ntmps25
  go_wp2_with fail
  refine bodyPost_ret (v := .agg #[.int .i64 kd, .string nm, .slice none 0 0, .int .i64 0, .int .i64 0, .int .i64 0, .int .i64 0, .int .i64 0, .int .i64 7]) (by simp [results, Try.results25, go_sem]) rfl ⟨rfl, ?_⟩
  (repeat (first | with_reducible exact Below.refl _ _ | with_reducible assumption | with_reducible refine Below.alloc0 ?_ _ | with_reducible refine Below.ext0 ?_ _ | with_reducible refine Below.drew ?_ | with_reducible refine below_drewN ?_ _ | (with_reducible refine Below.setCell (hp := ?hp) ?_ _; case hp => (first | (simp; done) | (simp; omega)))))
end Go.Proofs.Ytecjhniomjmocaa
