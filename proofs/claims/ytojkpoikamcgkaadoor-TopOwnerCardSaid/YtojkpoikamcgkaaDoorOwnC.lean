/- Layer 2 (digest): Sum. -/
import Derived.Test.YtojkpoikamcgkaaDoorOwnB
import Derived.RegionTactic
namespace Go.Proofs.YtojkpoikamcgkaaDoor
open Go.RowKit
set_option linter.unusedVariables false
set_option linter.unusedSimpArgs false
attribute [local go_sem] ext_cell ext_frozen lt_ext ext_drew

theorem shl_cast (c k : Nat) : IntKind.u64.wrap ((c : Int) * 2 ^ (8 * k)) = ((c * 2 ^ (8 * k) % 18446744073709551616 : Nat) : Int) := by
  rw [IntKind.wrap_u64, Int.natCast_emod, Int.natCast_mul, Int.natCast_pow]
  rfl
/-- The closure that takes a byte. -/
structure DgAt (w : World) (sb bb nb : Nat) (d : Dg) : Prop where
  s : Bk w sb #[.int .u64 d.1] 86
  b : Bk w bb #[.int .u64 d.2.1] 85
  n : Bk w nb #[.int .i64 d.2.2] 3
set_option maxRecDepth 100000 in
set_option maxHeartbeats 2000000 in
theorem add_any (c : Nat) (d : Dg) (sb bb nb : Nat) (hc : c < 256) (hd : okD d) (w : World) (h : DgAt w sb bb nb d) (h1 : sb ≠ bb) (h2 : sb ≠ nb) (h3 : bb ≠ nb) :
    Calls Tryd.prog 54 #[.int .u8 c, .pointer (some ⟨bb, 0, none⟩), .pointer (some ⟨nb, 0, none⟩), .pointer (some ⟨sb, 0, none⟩)] w fun e w' => e = .returned (.tuple #[]) ∧ DgAt w' sb bb nb (addD d c) ∧ Only (fun g => g = sb ∨ g = bb ∨ g = nb) w w' := by
  obtain ⟨s, b, n⟩ := d
  obtain ⟨hs, hb, hn⟩ := hd
  obtain ⟨k1, k2, k3⟩ := h
  simp only at hs hb hn k1 k2 k3
  have c1 : w.cell? ⟨bb, 0, none⟩ = some (.int .u64 b) := k2.cell 0
  have c2 : w.cell? ⟨nb, 0, none⟩ = some (.int .i64 n) := k3.cell 0
  have f1 := k2.free 0
  have f2 := k3.free 0
  have l1 := k1.lt
  have l2 := k2.lt
  have l3 := k3.lt
  have HK := Lib.hid (And.intro k1 (And.intro k2 k3))
  have hn0 : (0 : Int) ≤ 8 * (n : Int) := by omega
  have hn1 : 8 * (n : Int) ≤ 64 := by omega
  have hsh := shl_cast c n
  have hq : (8 * (n : Int)).toNat = 8 * n := by omega
  have hB := mod_lt64 (c * 2 ^ (8 * n))
  obtain ⟨C, hC⟩ : ∃ C, c * 2 ^ (8 * n) % 18446744073709551616 = C := ⟨_, rfl⟩
  rw [hC] at hsh hB
  have hor : bits .or .u64 (b : Int) (C : Int) = ((b ||| C : Nat) : Int) := bits_or_u64_nat b C hb hB
  have hB2 := or_lt hb hB
  have hadd : addD (s, b, n) c = if n + 1 = 8 then (mixN (s ^^^ (b ||| C)), 0, 0) else (s, b ||| C, n + 1) := by
    unfold addD
    simp only [hC]
  obtain ⟨D, hD⟩ : ∃ D, b ||| C = D := ⟨_, rfl⟩
  rw [hD] at hor hB2 hadd
  clear k1 k2 k3 hC hD hB
  go_enter Tryd.func54, Tryd.ntmps54
  have hW : ∀ (v1 v2 : Value), Only (fun g => g = sb ∨ g = bb ∨ g = nb) w ((w.setCell ⟨bb, 0, none⟩ v1).setCell ⟨nb, 0, none⟩ v2).drew := fun v1 v2 =>
    (((Only.refl _ w).set_ (p := ⟨bb, 0, none⟩) (.inl (.inr (.inl rfl))) _).set_ (p := ⟨nb, 0, none⟩) (.inl (.inr (.inr rfl))) _).drew
  have HW := Lib.hid hW
  clear hW
  by_cases h7 : n + 1 = 8
  · rw [if_pos h7] at hadd
    have hb8 : ((n : Int) + 1 == 8) = true := by simpa using (show (n : Int) + 1 = 8 by omega)
    have Hadd := Lib.hid hadd
    clear hadd h7
    go_wp2_with fail
    go_region
    go_wp2_with (go_at_call 55; refine (take_any s D sb hs hB2 _ (((HK.out.1.far (by show sb ≠ bb; exact h1) _).far (by show sb ≠ nb; exact h2) _).drew)).mono ?_; rintro e w3 ⟨rfl, z1, z2⟩; have b1 := ((HK.out.2.1.set_ 0 (.int .u64 D)).far (by show bb ≠ nb; exact h3) (Value.int .i64 ((n : Int) + 1))).drew.only z2 (fun e => h1 e.symm); have b2 := ((HK.out.2.2.far (by show nb ≠ bb; exact fun e => h3 e.symm) (.int .u64 D)).set_ 0 (Value.int .i64 ((n : Int) + 1))).drew.only z2 (fun e => h2 e.symm); have x1 := b1.cell 0; have x2 := b2.cell 0; have y1 := b1.free 0; have y2 := b2.free 0; have m1 := b1.lt; have m2 := b2.lt; have HZ := Lib.hid (And.intro z1 (And.intro z2 (And.intro b1 b2))); clear z1 z2 b1 b2)
    go_end0
    refine ⟨rfl, ?_, ?_⟩
    · rw [Hadd.out]
      exact ⟨(HZ.out.1.far (by show sb ≠ bb; exact h1) _).far (by show sb ≠ nb; exact h2) _, (HZ.out.2.2.1.set_ 0 _).far (by show bb ≠ nb; exact h3) _, (HZ.out.2.2.2.far (by show nb ≠ bb; exact fun e => h3 e.symm) _).set_ 0 _⟩
    · exact ((((HW.out _ _).trans' HZ.out.2.1 (fun g hg => .inl (.inl hg))).set_ (p := ⟨bb, 0, none⟩) (.inl (.inr (.inl rfl))) _).set_ (p := ⟨nb, 0, none⟩) (.inl (.inr (.inr rfl))) _)
  · rw [if_neg h7] at hadd
    have hb8 : ((n : Int) + 1 == 8) = false := by simpa using (show ¬ (n : Int) + 1 = 8 by omega)
    have Hadd := Lib.hid hadd
    clear hadd h7
    go_wp2_with fail
    go_region
    go_wp2_with fail
    go_end0
    refine ⟨rfl, ?_, HW.out _ _⟩
    rw [Hadd.out]
    exact ⟨((HK.out.1.far (by show sb ≠ bb; exact h1) _).far (by show sb ≠ nb; exact h2) _).drew, ((HK.out.2.1.set_ 0 _).far (by show bb ≠ nb; exact h3) _).drew, ((HK.out.2.2.far (by show nb ≠ bb; exact fun e => h3 e.symm) _).set_ 0 _).drew⟩
end Go.Proofs.YtojkpoikamcgkaaDoor
