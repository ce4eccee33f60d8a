/- Layer 28 (pay): the walks of the methods. -/
import Derived.Test.YthgiopgapkjleaaMap
import Derived.Test.YthgiopgapkjleaaPayS
import Derived.Test.YthgiopgapkjleaaRows
import Derived.Outline
import Derived.Deep.RegionHeld3
import Derived.Deep.Cut
namespace Go.Proofs.Ythgiopgapkjleaa
open Go.RowKit
set_option linter.unusedVariables false
set_option linter.unusedSimpArgs false
attribute [local go_sem] ext_cell ext_frozen lt_ext ext_drew

def pcs (mb : Nat) (s : PayS) : Array Value := #[.int .i64 s.now, .int .i64 s.till, .int .i64 s.total, .int .i64 s.asked, .map (some mb), .int .i64 s.state, .int .i64 s.owed]

theorem tick_yes (w : World) (pb : Nat) (C : Array Value) (t : TypeId) (n0 now : Int) (h : Bk w pb C t) (h0 : C[0]? = some (.int .i64 n0)) (ht : tickB now = true) :
    Calls Try.prog 37 #[.pointer (some ⟨pb, 0, none⟩), .int .i64 now] w fun e w' => e = .returned (.bool true) ∧ w.setCell ⟨pb, 0, none⟩ (.int .i64 (max n0 now)) = w' := by
  obtain ⟨t1, t2⟩ := tickB_out ht
  have c0 := h.cell 0
  rw [h0] at c0
  have f0 := h.free 0
  have lB := h.lt
  have hmx := ite_max
  clear h h0 ht
  go_enter Try.func37, Try.ntmps37
  go_wp2
  go_ret
  exact ⟨rfl, rfl⟩
theorem tick_no (w : World) (p : Value) (now : Int) (ht : tickB now = false) :
    Calls Try.prog 37 #[p, .int .i64 now] w fun e w' => e = .returned (.bool false) ∧ w = w' := by
  have h := tickB_no ht
  clear ht
  rcases h with h | h
  all_goals
    go_enter Try.func37, Try.ntmps37
    go_wp2
    all_goals go_ret
    all_goals exact ⟨rfl, rfl⟩

theorem pass_nil (w : World) (now : Int) : Calls Try.prog 31 #[.pointer none, .int .i64 now] w fun e w' => e = .returned (.bool false) ∧ w = w' := by
  go_enter Try.func31, Try.ntmps31
  go_wp2
  go_ret
  exact ⟨rfl, rfl⟩
theorem pass_no (w : World) (pb : Nat) (now : Int) (ht : tickB now = false) : Calls Try.prog 31 #[.pointer (some ⟨pb, 0, none⟩), .int .i64 now] w fun e w' => e = .returned (.bool false) ∧ w = w' := by
  have Ht := Lib.hid ht
  clear ht
  go_enter Try.func31, Try.ntmps31
  go_wp2_with (go_at_call 37; refine (tick_no _ _ _ Ht.out).mono ?_; rintro e w' ⟨rfl, rfl⟩)
  go_ret
  exact ⟨rfl, rfl⟩

set_option maxHeartbeats 1000000 in
theorem pass_yes (w : World) (pb mb : Nat) (s : PayS) (now : Int) (h : Bk w pb (pcs mb s) 60) (ht : tickB now = true) :
    Calls Try.prog 31 #[.pointer (some ⟨pb, 0, none⟩), .int .i64 now] w fun e w' => e = .returned (.bool true) ∧ Bk w' pb (pcs mb (passS s now)) 60 ∧ Only (fun g => g = pb) w w' := by
  obtain ⟨s0, s1, s2, s3, s4, s5, s6⟩ := s
  have H := Lib.hid h
  have Ht := Lib.hid ht
  have lB := h.lt
  clear h ht
  go_enter Try.func31, Try.ntmps31
  go_wp2_with fail
  refine (tick_yes w pb _ _ s0 now H.out rfl Ht.out).mono ?_
  rintro e w' ⟨rfl, rfl⟩
  go_upto_region 3 with (fail)
  refine forget (fun W => Bk W pb #[.int .i64 (max s0 now), .int .i64 s1, .int .i64 s2, .int .i64 s3, .map (some mb), .int .i64 s4, .int .i64 s5] 60 ∧ Only (fun g => g = pb) w W) ⟨?_, ?_⟩ ?_
  · exact H.out.set_ 0 _
  · exact (Only.refl (fun g => g = pb) w).set_ (p := ⟨pb, 0, none⟩) (.inl rfl) _
  clear H lB
  rintro W ⟨b, ho⟩
  have c := b.cell
  have f := b.free
  have l := b.lt
  have HB := Lib.hid (And.intro b ho)
  clear b ho
  by_cases h1 : s4 = 1
  · subst h1
    by_cases h2 : s1 < max s0 now
    · go_quiet (fail)
      go_wp2_with fail
      go_ret
      refine ⟨rfl, ?_, ?_⟩
      · have e : pcs mb (passS ⟨s0, s1, s2, s3, 1, s5, s6⟩ now) = (#[.int .i64 (max s0 now), .int .i64 s1, .int .i64 s2, .int .i64 s3, .map (some mb), .int .i64 1, .int .i64 s5] : Array Value).setIfInBounds 5 (.int .i64 3) := by
          unfold passS pcs; simp [h2]
        rw [e]
        first | exact HB.out.1.set_ 5 _ | exact (show Bk (W.drewN _) pb _ _ from HB.out.1).set_ 5 _
      · first | exact (HB.out.2.drewN _).set_ (p := ⟨pb, 5, none⟩) (.inl rfl) _ | exact (HB.out.2.set_ (p := ⟨pb, 5, none⟩) (.inl rfl) _).drewN _
    · have h2' : max s0 now ≤ s1 := by omega
      go_quiet (fail)
      go_wp2_with fail
      go_ret
      refine ⟨rfl, ?_, HB.out.2.drewN _⟩
      have e : pcs mb (passS ⟨s0, s1, s2, s3, 1, s5, s6⟩ now) = (#[.int .i64 (max s0 now), .int .i64 s1, .int .i64 s2, .int .i64 s3, .map (some mb), .int .i64 1, .int .i64 s5] : Array Value) := by
        unfold passS pcs; simp [h2]
      rw [e]
      exact HB.out.1
  · have h1' : decide (s4 = 1) = false := by simpa using h1
    go_quiet (fail)
    go_wp2_with fail
    go_ret
    refine ⟨rfl, ?_, HB.out.2.drewN _⟩
    have e : pcs mb (passS ⟨s0, s1, s2, s3, s4, s5, s6⟩ now) = (#[.int .i64 (max s0 now), .int .i64 s1, .int .i64 s2, .int .i64 s3, .map (some mb), .int .i64 s4, .int .i64 s5] : Array Value) := by
      unfold passS pcs; simp [h1]
    rw [e]
    exact HB.out.1
end Go.Proofs.Ythgiopgapkjleaa
