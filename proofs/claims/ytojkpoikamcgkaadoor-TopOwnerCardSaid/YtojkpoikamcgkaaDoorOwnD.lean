/- Layer 2 (digest): Sum. -/
import Derived.Test.YtojkpoikamcgkaaDoorOwnC
import Derived.Deep.DeepCutAuto
namespace Go.Proofs.YtojkpoikamcgkaaDoor
open Go.RowKit
set_option linter.unusedVariables false
set_option linter.unusedSimpArgs false
attribute [local go_sem] ext_cell ext_frozen lt_ext ext_drew

theorem byte_atO {s : ByteArray} {k : Nat} (hk : k < s.size) : s.data.toList[k]? = some s[k] := by
  rw [Array.getElem?_toList, Array.getElem?_eq_getElem (show k < s.data.size from hk)]
  rfl
def dgM (w : World) (nb : Nat) : Nat := match w.cell? ⟨nb, 0, none⟩ with
  | some (.int _ z) => if z = 0 then 0 else 8 - z.toNat
  | _ => 0
theorem dgM_of {w : World} {sb bb nb : Nat} {d : Dg} (h : DgAt w sb bb nb d) : dgM w nb = if d.2.2 = 0 then 0 else 8 - d.2.2 := by
  unfold dgM
  rw [h.n.cell]
  simp
theorem DgAt.only {w w' : World} {sb bb nb : Nat} {d : Dg} (h : DgAt w sb bb nb d) (hb : Below w.heap.size w w') : DgAt w' sb bb nb d := ⟨h.s.below hb, h.b.below hb, h.n.below hb⟩
theorem pad_zero (j : Nat) {d : Dg} (h : d.2.2 = 0) : padD j d = d := by
  cases j with
  | zero => rfl
  | succ j => unfold padD; rw [if_pos h]
theorem pad_step {j : Nat} {d : Dg} (h : ¬ d.2.2 = 0) : padD (j + 1) d = padD j (addD d 0) := by
  conv => lhs; unfold padD
  rw [if_neg h]
theorem addD_n (d : Dg) (c : Nat) : (addD d c).2.2 = if d.2.2 + 1 = 8 then 0 else d.2.2 + 1 := by
  unfold addD
  split <;> rfl
set_option maxRecDepth 100000 in
set_option maxHeartbeats 2000000 in
theorem sum_any (s : ByteArray) (w : World) (hsz : s.size ≤ 9223372036854775807) (ht : HexTab w) :
    Calls Tryd.prog 39 #[.string s] w fun e w' => e = .returned (.string ⟨(sumL s.data.toList).toArray⟩) ∧ Below w.heap.size w w' := by
  have HT := Lib.hid ht
  clear ht
  go_enter Tryd.func39, Tryd.ntmps39
  have hmk : ∀ (fn : Fn) (first cap : Array Value) (w : World), (Instr.makeFunc fn first cap).run Tryd.prog w = .ok (.func fn first cap) w := fun _ _ _ _ => rfl
  go_upto_region 4 with (fail)
  refine forget (fun X => Below w.heap.size w X ∧ DgAt X w.heap.size (w.heap.size + 1) (w.heap.size + 1 + 1) startD) ⟨by (repeat (first | with_reducible exact Below.refl _ _ | with_reducible assumption | with_reducible refine Below.alloc0 ?_ _ | with_reducible refine Below.ext0 ?_ _ | with_reducible refine Below.drew ?_ | with_reducible refine below_drewN ?_ _ | (with_reducible refine Below.setCell (hp := ?hp) ?_ _; case hp => (first | (simp; done) | (simp; omega))))), ⟨((Bk.new w _ _).alloc _).alloc _, (bk_next w _ _ _).alloc _, bk_new_at _ _ _ _ (by simp)⟩⟩ ?_
  have hne1 : w.heap.size ≠ w.heap.size + 1 := by omega
  have hne2 : w.heap.size ≠ w.heap.size + 1 + 1 := by omega
  have hne3 : w.heap.size + 1 ≠ w.heap.size + 1 + 1 := by omega
  clear hmk
  rintro X ⟨hX, hd⟩
  have HX := Lib.hid (And.intro hX hd)
  clear hX hd
  go_wp2_with fail
  go_loopw [7, 11] (fun _ i wr => ∃ k : Nat, k ≤ s.size ∧ i = .int .i64 k ∧ Below w.heap.size w wr ∧ DgAt wr w.heap.size (w.heap.size + 1) (w.heap.size + 1 + 1) ((s.data.toList.take k).foldl (fun d c => addD d c.toNat) startD)) (fun _ i _ => s.size - (intOf i).toNat)
  case atStart => exact ⟨0, by omega, rfl, HX.out.1, HX.out.2⟩
  case round =>
    obtain ⟨k, hk, rfl, hlow, hd⟩ := hrel
    generalize wr = wA at *
    have hz := hlow.size
    by_cases hlt : k < s.size
    · have hkl : (k : Int) < (s.size : Int) := by omega
      have hc : s[k].toNat < 256 := s[k].toNat_lt
      have hst := fold_take (byte_atO hlt) startD
      have hok : okD ((s.data.toList.take k).foldl (fun d c => addD d c.toNat) startD) := fold_ok startD_ok
      have HA := Lib.hid (And.intro hlow (And.intro hd (And.intro hst hok)))
      clear hlow hd hst hok
      go_wp2_with (go_at_call 54; refine (add_any s[k].toNat _ w.heap.size (w.heap.size + 1) (w.heap.size + 1 + 1) hc HA.out.2.2.2 _ HA.out.2.1 hne1 hne2 hne3).mono ?_; rintro e w2 ⟨rfl, z1, z2⟩; have HZ := Lib.hid (And.intro z1 z2); clear z1 z2)
      go_roundw
      case rel => exact ⟨k + 1, by omega, by go_num, HA.out.1.trans (HZ.out.2.to_below (fun g hg => by omega) hz), by rw [HA.out.2.2.1]; exact HZ.out.1⟩
      case measure => simp [intOf]; omega
    · obtain rfl : k = s.size := by omega
      have hl : s.data.toList.take s.size = s.data.toList := List.take_of_length_le (by simp)
      rw [hl] at hd
      have hok : okD (s.data.toList.foldl (fun d c => addD d c.toNat) startD) := fold_ok startD_ok
      have hsum : sumN s.data.toList = (padD 8 (addD (s.data.toList.foldl (fun d c => addD d c.toNat) startD) 1)).1 := rfl
      obtain ⟨d0, hd0⟩ : ∃ d, s.data.toList.foldl (fun d c => addD d c.toNat) startD = d := ⟨_, rfl⟩
      rw [hd0] at hd hok hsum
      have HA := Lib.hid (And.intro hlow (And.intro hd (And.intro hsum hok)))
      clear hlow hd hsum hok hd0 hl
      go_wp2_with (go_at_call 54; refine (add_any 1 d0 w.heap.size (w.heap.size + 1) (w.heap.size + 1 + 1) (by decide) HA.out.2.2.2 _ HA.out.2.1 hne1 hne2 hne3).mono ?_; rintro e w2 ⟨rfl, z1, z2⟩; have HZ := Lib.hid (And.intro z1 z2); clear z1 z2)
      have hok1 := addD_ok (c := 1) HA.out.2.2.2
      go_loopw [] (fun wr => ∃ (d : Dg) (j : Nat), okD d ∧ padD 8 (addD d0 1) = padD j d ∧ (d.2.2 = 0 ∨ 8 - d.2.2 ≤ j) ∧ Below w.heap.size w wr ∧ DgAt wr w.heap.size (w.heap.size + 1) (w.heap.size + 1 + 1) d) (fun wr => dgM wr (w.heap.size + 1 + 1))
      case atStart => exact ⟨addD d0 1, 8, hok1, rfl, .inr (by omega), HA.out.1.trans (HZ.out.2.to_below (fun g hg => by omega) hz), HZ.out.1⟩
      case round =>
        obtain ⟨d, j, hok, hpad, hj, hlow, hd⟩ := hrel
        generalize wr = wB at *
        have hzB := hlow.size
        have c1 : wB.cell? ⟨w.heap.size + 1 + 1, 0, none⟩ = some (.int .i64 d.2.2) := hd.n.cell 0
        have m1 := hd.n.lt
        have hmm := dgM_of hd
        by_cases h0 : d.2.2 = 0
        · rw [pad_zero j h0] at hpad
          have c2 : wB.cell? ⟨w.heap.size, 0, none⟩ = some (.int .u64 d.1) := hd.s.cell 0
          have m2 := hd.s.lt
          have hn0 : ¬ (0 : Int) < (d.2.2 : Int) := by omega
          have HB := Lib.hid (And.intro hlow (And.intro hpad (HT.out.below hlow)))
          have hd1 := hok.1
          clear hlow hpad hd hmm
          go_wp2_with (go_at_call 56; refine (text_any d.1 hd1 _ HB.out.2.2).mono ?_; rintro e w2 ⟨rfl, z1⟩; have HZ2 := Lib.hid z1; clear z1)
          go_ret
          refine ⟨?_, Below.trans0 HB.out.1 HZ2.out⟩
          show Ending.returned (.string ⟨(hexL d.1).toArray⟩) = _
          unfold sumL
          rw [HA.out.2.2.1, HB.out.2.1]
        · obtain ⟨j, rfl⟩ : ∃ q, j = q + 1 := ⟨j - 1, by have := hok.2.2; omega⟩
          rw [pad_step h0] at hpad
          have hn0 : (0 : Int) < (d.2.2 : Int) := by omega
          have HB := Lib.hid (And.intro hlow (And.intro hpad (And.intro hd (And.intro hok hmm))))
          clear hlow hpad hd hmm
          go_wp2_with (go_at_call 54; refine (add_any 0 d w.heap.size (w.heap.size + 1) (w.heap.size + 1 + 1) (by decide) HB.out.2.2.2.1 _ HB.out.2.2.1 hne1 hne2 hne3).mono ?_; rintro e w2 ⟨rfl, z1, z2⟩; have HZ2 := Lib.hid (And.intro z1 z2); clear z1 z2)
          have hn := addD_n d 0
          go_roundw
          case rel => exact ⟨addD d 0, j, addD_ok HB.out.2.2.2.1, HB.out.2.1, by rw [hn]; split <;> omega, HB.out.1.trans (HZ2.out.2.to_below (fun g hg => by omega) hzB), HZ2.out.1⟩
          case measure =>
            rw [dgM_of HZ2.out.1, HB.out.2.2.2.2, if_neg h0, hn]
            have := HB.out.2.2.2.1.2.2
            split <;> split <;> omega
end Go.Proofs.YtojkpoikamcgkaaDoor
