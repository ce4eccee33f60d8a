/- Layer 2 (digest): the state takes a block. -/
import Derived.Test.YtojkpoikamcgkaaDoorOwnP
import Derived.Test.YtojkpoikamcgkaaDoorArr
import Derived.Test.YtojkpoikamcgkaaDoorRows
import Derived.Outline
import Derived.IntWalk
import Derived.Laws.Bits64
import Derived.Laws.Bits64b
import Derived.Test.YtojkpoikamcgkaaDoorOwnLib
namespace Go.Proofs.YtojkpoikamcgkaaDoor
open Go.RowKit
set_option linter.unusedVariables false
set_option linter.unusedSimpArgs false
attribute [local go_sem] ext_cell ext_frozen lt_ext ext_drew

theorem mul64 (x y : Nat) (hx : x < 18446744073709551616) (hy : y < 18446744073709551616) (w : World) :
    Calls Tryd.prog 70 #[.int .u64 x, .int .u64 y] w fun e w' => e = .returned (.tuple #[.int .u64 ((x * y / 18446744073709551616 : Nat) : Int), .int .u64 ((x * y % 18446744073709551616 : Nat) : Int)]) ∧ w' = w := Tryd.bits_Mul64 x y hx hy w
theorem mul_c1 (x : Nat) (hx : x < 18446744073709551616) (w : World) :
    Calls Tryd.prog 70 #[.int .u64 x, .int .u64 11400714819323198485] w fun e w' => e = .returned (.tuple #[.int .u64 ((x * 11400714819323198485 / 18446744073709551616 : Nat) : Int), .int .u64 ((x * 11400714819323198485 % 18446744073709551616 : Nat) : Int)]) ∧ w' = w := mul64 x 11400714819323198485 hx (by decide) w
theorem mul_c2 (x : Nat) (hx : x < 18446744073709551616) (w : World) :
    Calls Tryd.prog 70 #[.int .u64 x, .int .u64 13787848793156543929] w fun e w' => e = .returned (.tuple #[.int .u64 ((x * 13787848793156543929 / 18446744073709551616 : Nat) : Int), .int .u64 ((x * 13787848793156543929 % 18446744073709551616 : Nat) : Int)]) ∧ w' = w := mul64 x 13787848793156543929 hx (by decide) w
abbrev stepsV : Value := .agg #[.int .u64 32, .int .u64 11400714819323198485, .int .u64 29, .int .u64 13787848793156543929]
theorem idx0 (w : World) : (Instr.index 104 stepsV (.int .i64 0)).run Tryd.prog w = .ok (.agg #[.int .u64 32, .int .u64 11400714819323198485]) w := by
  have := run_index_agg (P := Tryd.prog) (n := 2) (m := 2) Tryd.underlying104 Tryd.underlying103 rfl (by kernel_rfl) #[.int .u64 32, .int .u64 11400714819323198485, .int .u64 29, .int .u64 13787848793156543929] 0 (by decide) w
  simpa using this
theorem idx1 (w : World) : (Instr.index 104 stepsV (.int .i64 1)).run Tryd.prog w = .ok (.agg #[.int .u64 29, .int .u64 13787848793156543929]) w := by
  have := run_index_agg (P := Tryd.prog) (n := 2) (m := 2) Tryd.underlying104 Tryd.underlying103 rfl (by kernel_rfl) #[.int .u64 32, .int .u64 11400714819323198485, .int .u64 29, .int .u64 13787848793156543929] 1 (by decide) w
  simpa using this
theorem shr_cast (x k : Nat) : (x : Int) / (2 : Int) ^ k = ((x / 2 ^ k : Nat) : Int) := by
  rw [Int.natCast_ediv, Int.natCast_pow]; rfl
theorem xs1 (X : Nat) (hX : X < 18446744073709551616) : bits .xor .u64 (X : Int) ((X : Int) / 4294967296) = ((X ^^^ (X / 4294967296) : Nat) : Int) := xorShift_u64 X 4294967296 hX
theorem xs2 (X : Nat) (hX : X < 18446744073709551616) : bits .xor .u64 (X : Int) ((X : Int) / 536870912) = ((X ^^^ (X / 536870912) : Nat) : Int) := xorShift_u64 X 536870912 hX
def st1 (X : Nat) : Nat := (X ^^^ (X / 4294967296)) * 11400714819323198485 % 18446744073709551616
def st2 (X : Nat) : Nat := (st1 X ^^^ (st1 X / 536870912)) * 13787848793156543929 % 18446744073709551616
theorem mix_st (X : Nat) : mixN X = st2 X ^^^ (st2 X / 4294967296) := rfl
set_option maxRecDepth 100000 in
set_option maxHeartbeats 2000000 in
theorem take_any (s b : Nat) (p : Nat) (hs : s < 18446744073709551616) (hb : b < 18446744073709551616) (w : World) (hp : Bk w p #[.int .u64 s] 86) :
    Calls Tryd.prog 55 #[.pointer (some ⟨p, 0, none⟩), .int .u64 b] w fun e w' => e = .returned (.tuple #[]) ∧ Bk w' p #[.int .u64 (mixN (s ^^^ b))] 86 ∧ Only (fun g => g = p) w w' := by
  have c0 : w.cell? ⟨p, 0, none⟩ = some (.int .u64 s) := hp.cell 0
  have f0 := hp.free 0
  have l0 := hp.lt
  have HP := Lib.hid hp
  clear hp
  have hx0 : bits .xor .u64 (s : Int) (b : Int) = ((s ^^^ b : Nat) : Int) := bits_xor_u64_nat s b hs hb
  have hX := xor_lt hs hb
  obtain ⟨X, hX9⟩ : ∃ X, s ^^^ b = X := ⟨_, rfl⟩
  rw [hX9] at hx0 hX ⊢
  clear hX9
  go_enter Tryd.func55, Tryd.ntmps55
  go_wp2_with fail
  go_loopw [4, 6, 15] (fun x _ i wr => ∃ k z : Nat, k ≤ 2 ∧ i = .int .i64 k ∧ x = .int .u64 z ∧ (k = 0 → z = X) ∧ (k = 1 → z = st1 X) ∧ (k = 2 → z = st2 X) ∧ Below w.heap.size w wr) (fun _ _ i _ => 2 - (intOf i).toNat)
  case atStart => exact ⟨0, X, by omega, rfl, rfl, fun _ => rfl, fun h => absurd h (by decide), fun h => absurd h (by decide), Below.refl _ _⟩
  case round =>
    obtain ⟨k, z, hk, rfl, rfl, hz0, hz1, hz2, hlow⟩ := hrel
    generalize wr = wA at *
    have hz := hlow.size
    rcases (show k = 0 ∨ k = 1 ∨ k = 2 by omega) with rfl | rfl | rfl
    · obtain rfl := hz0 rfl
      clear hz0 hz1 hz2
      have e1 := xs1 z hX
      have hY := xor_lt hX (div_lt64 4294967296 hX)
      obtain ⟨Y, hY9⟩ : ∃ Y, z ^^^ (z / 4294967296) = Y := ⟨_, rfl⟩
      rw [hY9] at e1 hY
      have hi := idx0
      obtain ⟨Y2, hY2⟩ : ∃ Y2, Y * 11400714819323198485 % 18446744073709551616 = Y2 := ⟨_, rfl⟩
      have hM := mul_c1 Y hY
      rw [hY2] at hM
      have HM := Lib.hid hM
      have HY := Lib.hid (show st1 z = Y2 by unfold st1; rw [hY9, hY2])
      clear hY9 hM hY2
      as_aux_lemma =>
      go_wp2_with (go_at_call 70; refine (HM.out _).mono ?_; rintro e w' ⟨rfl, rfl⟩)
      go_roundw
      case rel => exact ⟨1, Y2, by omega, by go_num, rfl, fun h => absurd h (by decide), fun _ => HY.out.symm, fun h => absurd h (by decide), hlow.trans ((below_self wA _).mono hz)⟩
      case measure => simp [intOf]
    · obtain rfl := hz1 rfl
      have hX1 : st1 X < 18446744073709551616 := mod_lt64 _
      clear hz0 hz1 hz2
      have e1 := xs2 (st1 X) hX1
      have hY := xor_lt hX1 (div_lt64 536870912 hX1)
      obtain ⟨Y, hY9⟩ : ∃ Y, st1 X ^^^ (st1 X / 536870912) = Y := ⟨_, rfl⟩
      rw [hY9] at e1 hY
      have hi := idx1
      obtain ⟨Y2, hY2⟩ : ∃ Y2, Y * 13787848793156543929 % 18446744073709551616 = Y2 := ⟨_, rfl⟩
      have hM := mul_c2 Y hY
      rw [hY2] at hM
      have HM := Lib.hid hM
      have HY := Lib.hid (show st2 X = Y2 by unfold st2; rw [hY9, hY2])
      clear hY9 hM hY2
      generalize st1 X = Z at *
      as_aux_lemma =>
      go_wp2_with (go_at_call 70; refine (HM.out _).mono ?_; rintro e w' ⟨rfl, rfl⟩)
      go_roundw
      case rel => exact ⟨2, Y2, by omega, by go_num, rfl, fun h => absurd h (by decide), fun h => absurd h (by decide), fun _ => HY.out.symm, hlow.trans ((below_self wA _).mono hz)⟩
      case measure => simp [intOf]
    · obtain rfl := hz2 rfl
      clear hz0 hz1 hz2
      have hX2 : st2 X < 18446744073709551616 := mod_lt64 _
      have e1 := xs1 (st2 X) hX2
      have hmix := mix_st X
      rw [← hmix] at e1
      have Hq := HP.out.below hlow
      have c1 : wA.cell? ⟨p, 0, none⟩ = some (.int .u64 s) := Hq.cell 0
      have f1 := Hq.free 0
      have l1 := Hq.lt
      have HQ := Lib.hid (And.intro Hq hlow)
      clear Hq hmix hlow
      generalize st2 X = Z at *
      obtain ⟨M, hM⟩ : ∃ M, mixN X = M := ⟨_, rfl⟩
      rw [hM] at e1
      have HM := Lib.hid hM
      clear hM
      as_aux_lemma =>
      go_wp2_with fail
      go_end0
      refine ⟨rfl, by rw [HM.out]; exact HQ.out.1.set_ 0 _, ?_⟩
      exact ((Only.refl (fun g => g = p) w).trans' (Only.of_below (S := fun _ => False) HQ.out.2) (fun _ h => h.elim)).set_ (p := ⟨p, 0, none⟩) (.inl rfl) _
end Go.Proofs.YtojkpoikamcgkaaDoor
