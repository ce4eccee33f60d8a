/- Layer 28 (pay): how the laws' arguments are opened, and how each law begins. -/
import Derived.Test.YthgiopgapkjleaaPayH
namespace Go.Proofs.Ythgiopgapkjleaa
open Go.RowKit Go.ChangeAt
set_option linter.unusedVariables false
set_option linter.unusedSimpArgs false
attribute [local go_sem] ext_cell ext_frozen lt_ext ext_drew

theorem own : ownKnob Try.prog.godebug = none := by kernel_rfl
theorem laidOut : laidOutB Try.prog = true := by kernel_rfl
abbrev tOp : Ty OpS := tPair tInt (tPair tBool tInt)
theorem opensI : Opens Try.prog 3 tInt := opens_int Try.underlying3 (by kernel_rfl)
theorem opensB : Opens Try.prog 4 tBool := opens_bool Try.underlying4 (by kernel_rfl)
theorem opensOp : Opens Try.prog 39 tOp := opens_struct Try.underlying39 (by kernel_rfl) (.cons rfl opensI (.cons rfl opensB (.one rfl opensI)))
theorem opensOps : Opens Try.prog 26 (tSlice tOp) := opens_slice Try.underlying26 (by kernel_rfl) (by decide) opensOp

theorem pick_op {w : World} {B : Nat} {A : Option Addr} {ls : List OpS} (h : Elems tOp w B A ls) {k : Nat} (hk : k < ls.length) :
    ∃ b off a y n, A = some ⟨b, off, none⟩ ∧ b < B ∧ Hid (ls[k]? = some (a, y, n)) ∧ w.cell? ⟨b, off + k * 3, none⟩ = some (.int .i64 a) ∧ w.cell? ⟨b, off + k * 3 + 1, none⟩ = some (.bool y) ∧ w.cell? ⟨b, off + k * 3 + 2, none⟩ = some (.int .i64 n) ∧ fits a ∧ fits n := by
  obtain ⟨b, off, ⟨a, y, n⟩, cs, hA, hb, _, hx, _, ⟨c1, c2, rfl, ⟨rfl, h1⟩, ⟨d1, d2, rfl, rfl, ⟨rfl, h2⟩⟩⟩, hc⟩ := h.pick hk
  exact ⟨b, off, a, y, n, hA, hb, hx, hc 0 _ rfl, hc 1 _ rfl, hc 2 _ rfl, h1, h2⟩

theorem errn_ok (till : Int) : (0 ≤ till ∧ till ≤ 1000000000) ∨ (¬ (0 ≤ till ∧ till ≤ 1000000000)) := by omega

/-- What the loop of a law knows: a payment, in a world in which nothing that was there has changed. -/
structure Runs (w wr : World) (pb mb m K : Nat) (s : PayS) : Prop where
  pay : PayIs wr pb mb m K s
  low : Below w.heap.size w wr
theorem Runs.step {w wr w' : World} {pb mb m m' K K' : Nat} {s s' : PayS} (h : Runs w wr pb mb m K s) (hp : PayIs w' pb mb m' K' s') (ho : Only (fun g => g = pb ∨ g = mb) wr w') (h1 : w.heap.size ≤ pb) (h2 : w.heap.size ≤ mb) : Runs w w' pb mb m' K' s' :=
  ⟨hp, h.low.trans (ho.to_below (fun g hg => by omega) h.low.size)⟩

theorem startS_no (total till : Int) (h : 0 ≤ till) : NoYes (startS total till) := by
  refine ⟨fun x hx => (by simp [startS] at hx), rfl, ?_⟩
  show (1 : Int) = if till < 0 then 3 else 1
  rw [if_neg (by omega)]
end Go.Proofs.Ythgiopgapkjleaa
