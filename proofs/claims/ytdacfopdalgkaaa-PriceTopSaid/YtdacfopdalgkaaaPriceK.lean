/- Layer 17 (price): bills that are the same; the examples. -/
import Derived.Test.YtdacfopdalgkaaaPriceJ
namespace Go.Proofs.Ytdacfopdalgkaaa
open Go.RowKit
set_option linter.unusedVariables false
set_option linter.unusedSimpArgs false
attribute [local go_sem] ext_cell ext_frozen lt_ext ext_drew

set_option maxHeartbeats 2000000 in
theorem same_yes (A A' : Option Addr) (ls : List Ln) (cap cap' n : Nat) (t : Int) (w : World) (B : Nat) (h : Elems tLine w B A ls) (h' : Elems tLine w B A' ls) (hB : B ≤ w.heap.size) (hn : ls.length = n) (hl : n ≤ 1000000) :
    Calls Try.prog 16 #[.agg #[.slice A n cap, .int .i64 t], .agg #[.slice A' n cap', .int .i64 t]] w fun e w' => e = .returned (.bool true) ∧ Below w.heap.size w w' := by
  subst hn
  go_enter Try.func16, Try.ntmps16
  go_wp2_with fail
  refine forget (fun W => Below w.heap.size w W ∧ Bk W w.heap.size #[.slice A ls.length cap, .int .i64 t] 28 ∧ Bk W (w.heap.size + 1) #[.slice A' ls.length cap', .int .i64 t] 28) ⟨?_, ?_, ?_⟩ ?_
  · (repeat (first | with_reducible exact Below.refl _ _ | with_reducible assumption | with_reducible refine Below.alloc0 ?_ _ | with_reducible refine Below.ext0 ?_ _ | with_reducible refine Below.drew ?_ | with_reducible refine below_drewN ?_ _ | (with_reducible refine Below.setCell (hp := ?hp) ?_ _; case hp => (first | (simp; done) | (simp; omega)))))
  · exact (Bk.new w _ _).alloc _
  · exact bk_next w _ _ _
  rintro W ⟨hw, bD, bR⟩
  have hE := h.keep (hw.mono hB) (Nat.le_refl _)
  have hE' := h'.keep (hw.mono hB) (Nat.le_refl _)
  have hB' : B ≤ W.heap.size := Nat.le_trans hB hw.size
  have HW := Lib.hid hw
  clear hw h h' hB
  have cD := bD.cell
  have lD := bD.lt
  have cR := bR.cell
  have lR := bR.lt
  clear bD bR
  go_loopw [5] (fun i wr => ∃ (k : Nat) (n : Nat), k ≤ ls.length ∧ i = .int .i64 k ∧ wr = W.drewN n) (fun i _ => ls.length - (intOf i).toNat)
  case atStart => exact ⟨0, 0, by omega, rfl, rfl⟩
  case round =>
    obtain ⟨k, n, hk, rfl, rfl⟩ := hrel
    by_cases hlt : k < ls.length
    · obtain ⟨b, off, kl, a, rfl, hb, Hk, c0, c1, f0, f1⟩ := pick_line hE hlt
      obtain ⟨b', off', kl', a', rfl, hb', Hk', d0, d1, g0, g1⟩ := pick_line hE' hlt
      obtain ⟨rfl, rfl⟩ : kl = kl' ∧ a = a' := by
        have := Hk.out.symm.trans Hk'.out
        simpa using this
      have k0 : (0 : Int) ≤ k := by omega
      have k1 : (k : Int) < ls.length := by omega
      go_wp2_with fail
      go_quiet (fail)
      go_wp2_with fail
      go_roundw
      case rel => exact ⟨k + 1, _, by omega, by go_num, rfl⟩
      case measure => simp [intOf]; omega
    · go_wp2_with fail
      go_ret
      exact ⟨rfl, below_drewN HW.out _⟩

theorem forget_then {K : Act → World → Prop} {Q : Exit → Act → World → Prop} {a : Act} {W : World} (F : World → Prop) (hF : F W) (h : ∀ w, F w → Exit.then K Q .normal a w) : Exit.then K Q .normal a W := h W hF

def exQ : List Ln := [(1, 2100), (2, 210), (3, 162)]
theorem exQ1 : quoteE true 1050 1 10 7 100 2 = 0 ∧ quoteL true 1050 1 10 7 100 2 = exQ := by decide +kernel
theorem exQ2 : quoteE false 1050 1 10 7 100 2 = 15 ∧ quoteL false 1050 1 10 7 100 2 = [] := by decide +kernel
theorem exQ3 : quoteE false 1050 1 10 7 100 13 = 1 ∧ quoteL false 1050 1 10 7 100 13 = [] := by decide +kernel
theorem exB : backV 0 exQ 2472 1 2 = 1236 ∧ backE 0 exQ 2472 1 2 = 0 := by decide +kernel
theorem exT : backV 1 exQ 2472 3 2 = 3150 ∧ backE 1 exQ 2472 3 2 = 0 := by decide +kernel

theorem quote_ex1 (w : World) : Calls Try.prog 10 #[.agg #[.bool true, .bool false, .bool false, .int .i64 0, .int .i64 1050, .int .i64 1, .int .i64 10, .int .i64 7, .int .i64 100, .int .i64 0, .int .i64 0, .int .i64 0, .int .i64 0, .int .i64 0, .int .i64 0, .int .i64 0], .int .i64 2] w
    fun e w' => ∃ A cap, e = .returned (.tuple #[.agg #[.slice A 3 cap, .int .i64 2472], .int .i64 0]) ∧ Elems tLine w' w'.heap.size A exQ ∧ Fresh w.heap.size A ∧ Below w.heap.size w w' := by
  have h := quote_any true false false 0 1050 1 10 7 100 0 0 0 0 0 0 0 2 w
  rw [exQ1.1, exQ1.2] at h
  exact h.mono fun e w' ⟨A, cap, he, hE, _, _, hF, hb⟩ => ⟨A, cap, he, hE, hF, hb⟩
theorem quote_ex2 (w : World) : Calls Try.prog 10 #[.agg #[.bool false, .bool false, .bool false, .int .i64 0, .int .i64 1050, .int .i64 1, .int .i64 10, .int .i64 7, .int .i64 100, .int .i64 0, .int .i64 0, .int .i64 0, .int .i64 0, .int .i64 0, .int .i64 0, .int .i64 0], .int .i64 2] w
    fun e w' => ∃ A cap, e = .returned (.tuple #[.agg #[.slice A 0 cap, .int .i64 0], .int .i64 15]) ∧ Below w.heap.size w w' := by
  have h := quote_any false false false 0 1050 1 10 7 100 0 0 0 0 0 0 0 2 w
  rw [exQ2.1, exQ2.2] at h
  exact h.mono fun e w' ⟨A, cap, he, hE, _, _, _, hb⟩ => ⟨A, cap, he, hb⟩
theorem quote_ex3 (w : World) : Calls Try.prog 10 #[.agg #[.bool false, .bool false, .bool false, .int .i64 0, .int .i64 1050, .int .i64 1, .int .i64 10, .int .i64 7, .int .i64 100, .int .i64 0, .int .i64 0, .int .i64 0, .int .i64 0, .int .i64 0, .int .i64 0, .int .i64 0], .int .i64 13] w
    fun e w' => ∃ A cap, e = .returned (.tuple #[.agg #[.slice A 0 cap, .int .i64 0], .int .i64 1]) ∧ Below w.heap.size w w' := by
  have h := quote_any false false false 0 1050 1 10 7 100 0 0 0 0 0 0 0 13 w
  rw [exQ3.1, exQ3.2] at h
  exact h.mono fun e w' ⟨A, cap, he, hE, _, _, _, hb⟩ => ⟨A, cap, he, hb⟩
theorem back_ex (A : Option Addr) (cap : Nat) (w : World) (B : Nat) (h : Hid (Elems tLine w B A exQ)) (hB : B ≤ w.heap.size) : Calls Try.prog 12 #[.agg #[.slice A 3 cap, .int .i64 2472], .agg #[.int .i64 1, .int .i64 2]] w
    fun e w' => e = .returned (.tuple #[.int .i64 1236, .int .i64 0]) ∧ Below w.heap.size w w' := by
  have := back_any A exQ cap 3 2472 1 2 w B h.out hB rfl (by omega) (by simp [fits])
  rwa [exB.1, exB.2] at this
theorem top_ex (A : Option Addr) (cap : Nat) (w : World) (B : Nat) (h : Hid (Elems tLine w B A exQ)) (hB : B ≤ w.heap.size) : Calls Try.prog 14 #[.agg #[.slice A 3 cap, .int .i64 2472], .agg #[.int .i64 3, .int .i64 2]] w
    fun e w' => e = .returned (.tuple #[.int .i64 3150, .int .i64 0]) ∧ Below w.heap.size w w' := by
  have := top_any A exQ cap 3 2472 3 2 w B h.out hB rfl (by omega) (by simp [fits])
  rwa [exT.1, exT.2] at this
end Go.Proofs.Ytdacfopdalgkaaa
