/- Layer 28 (pay): the walks of Ask, Answer, State, Owed. -/
import Derived.Test.YthgiopgapkjleaaPayA
namespace Go.Proofs.Ythgiopgapkjleaa
open Go.RowKit
set_option linter.unusedVariables false
set_option linter.unusedSimpArgs false
attribute [local go_sem] ext_cell ext_frozen lt_ext ext_drew

def litI (x : Int) : Lit := .int .i64 x
theorem litI_inj : ∀ x y, litI x = litI y → x = y := fun x y h => by simpa [litI] using h
theorem keyedI : Go.Maps.Keyed Try.prog 3 := Go.Maps.int_keyed Try.underlying3
theorem keyI {x : Int} (h : fits x) : keyOf Try.prog 3 (.int .i64 x) = some (litI x) := Go.Maps.keyOf_int_mk Try.underlying3 (by unfold fits at h; simp [Lit.wf, IntKind.min, IntKind.max, IntKind.signed, IntKind.bits]; omega)
theorem zeroB (w : World) : (zeroValue 4).run Try.prog w = .ok (.bool false) w := by kernel_rfl

/-- The payment at block pb is s; its map lies at block mb and has m keys; at most K steps were taken. -/
structure PayIs (w : World) (pb mb m K : Nat) (s : PayS) : Prop where
  bk : Bk w pb (pcs mb s) 60
  map : MapB litI Try.prog 3 4 w mb m s.ans
  few : m ≤ K
  ok : PayOK s
  total : 0 ≤ s.total ∧ s.total ≤ 1000000000
  owed : 0 ≤ s.owed ∧ s.owed ≤ 1000000000 * K

theorem PayIs.ne {w : World} {pb mb m K : Nat} {s : PayS} (h : PayIs w pb mb m K s) : pb ≠ mb := by
  intro e
  subst e
  obtain ⟨D, ⟨es, clock, hb, _⟩, _⟩ := h.map
  have := h.bk.symm.trans hb
  simp at this
theorem PayIs.only {w w' : World} {pb mb m K : Nat} {s : PayS} (h : PayIs w pb mb m K s) {S : Nat → Prop} (ho : Only S w w') (h1 : ¬ S pb) (h2 : ¬ S mb) : PayIs w' pb mb m K s := ⟨h.bk.only ho h1, h.map.only ho h2, h.few, h.ok, h.total, h.owed⟩
theorem PayIs.below {w w' : World} {pb mb m K : Nat} {s : PayS} (h : PayIs w pb mb m K s) (hb : Below w.heap.size w w') : PayIs w' pb mb m K s := ⟨h.bk.below hb, h.map.below hb, h.few, h.ok, h.total, h.owed⟩
theorem PayIs.more {w : World} {pb mb m K : Nat} {s : PayS} (h : PayIs w pb mb m K s) : PayIs w pb mb m (K + 1) s := ⟨h.bk, h.map, by have := h.few; omega, h.ok, h.total, by have := h.owed; omega⟩

theorem state_nil (w : World) : Calls Try.prog 16 #[.pointer none] w fun e w' => e = .returned (.int .i64 0) ∧ w = w' := by
  go_enter Try.func16, Try.ntmps16
  go_wp2
  go_ret
  exact ⟨rfl, rfl⟩
theorem owed_nil (w : World) : Calls Try.prog 18 #[.pointer none] w fun e w' => e = .returned (.int .i64 0) ∧ w = w' := by
  go_enter Try.func18, Try.ntmps18
  go_wp2
  go_ret
  exact ⟨rfl, rfl⟩
theorem state_any (w : World) (pb mb : Nat) (s : PayS) (h : Bk w pb (pcs mb s) 60) : Calls Try.prog 16 #[.pointer (some ⟨pb, 0, none⟩)] w fun e w' => e = .returned (.int .i64 s.state) ∧ w = w' := by
  have c : w.cell? ⟨pb, 5, none⟩ = some (.int .i64 s.state) := h.cell 5
  go_enter Try.func16, Try.ntmps16
  go_wp2
  go_ret
  exact ⟨rfl, rfl⟩
theorem owed_any (w : World) (pb mb : Nat) (s : PayS) (h : Bk w pb (pcs mb s) 60) : Calls Try.prog 18 #[.pointer (some ⟨pb, 0, none⟩)] w fun e w' => e = .returned (.int .i64 s.owed) ∧ w = w' := by
  have c : w.cell? ⟨pb, 6, none⟩ = some (.int .i64 s.owed) := h.cell 6
  go_enter Try.func18, Try.ntmps18
  go_wp2
  go_ret
  exact ⟨rfl, rfl⟩

theorem ask_nil (w : World) (now : Int) : Calls Try.prog 21 #[.pointer none, .int .i64 now] w fun e w' => e = .returned (.tuple #[.int .i64 0, .int .i64 1]) ∧ w = w' := by
  go_enter Try.func21, Try.ntmps21
  go_wp2_with (go_at_call 31; refine (pass_nil _ _).mono ?_; rintro e w' ⟨rfl, rfl⟩)
  go_ret2
  exact ⟨rfl, rfl⟩
theorem answer_nil (w : World) (a : Int) (y : Bool) (now : Int) : Calls Try.prog 22 #[.pointer none, .int .i64 a, .bool y, .int .i64 now] w fun e w' => e = .returned (.tuple #[.int .i64 0, .int .i64 1]) ∧ w = w' := by
  go_enter Try.func22, Try.ntmps22
  go_wp2_with (go_at_call 31; refine (pass_nil _ _).mono ?_; rintro e w' ⟨rfl, rfl⟩)
  go_ret2
  exact ⟨rfl, rfl⟩

set_option maxHeartbeats 1000000 in
theorem ask_any (w : World) (pb mb m K : Nat) (s : PayS) (now : Int) (h : PayIs w pb mb m K s) :
    Calls Try.prog 21 #[.pointer (some ⟨pb, 0, none⟩), .int .i64 now] w fun e w' => e = .returned (.tuple #[.int .i64 (askS s now).2.1, .int .i64 (askS s now).2.2]) ∧ PayIs w' pb mb m K (askS s now).1 ∧ Only (fun g => g = pb) w w' := by
  have hok := h.ok.ask now
  have H := Lib.hid h
  rcases ask_cases s now with ⟨ht, e⟩ | ⟨ht, h3, e⟩ | ⟨ht, h3, h1, e⟩ | ⟨ht, h1, h100, e⟩ | ⟨ht, h1, h100, e⟩
  · rw [e]
    have Ht := Lib.hid ht
    clear ht e hok h
    go_enter Try.func21, Try.ntmps21
    go_wp2_with (go_at_call 31; refine (pass_no _ _ _ Ht.out).mono ?_; rintro e w' ⟨rfl, rfl⟩)
    go_ret2
    exact ⟨rfl, H.out, Only.refl _ _⟩
  all_goals
    rw [e] at hok ⊢
    have Ht := Lib.hid ht
    have Hok := Lib.hid hok
    have hkeep : Hid (∀ w', Bk w' pb (pcs mb (passS s now)) 60 → Only (fun g => g = pb) w w' → PayIs w' pb mb m K (passS s now)) := fun w' hb ho => ⟨hb, h.map.only ho (fun e => h.ne e.symm), h.few, h.ok.pass ht, h.total, h.owed⟩
    have ha0 := h.ok.asked0
    have ha1 := h.ok.asked1
    have hsa : (passS s now).asked = s.asked := rfl
    clear ht e hok h
    go_enter Try.func21, Try.ntmps21
    go_wp2_with fail
    refine (pass_yes _ pb mb s _ H.out.bk Ht.out).mono ?_
    rintro e w1 ⟨rfl, hb, ho⟩
    have c5 : w1.cell? ⟨pb, 5, none⟩ = some (.int .i64 (passS s now).state) := hb.cell 5
    have c3 : w1.cell? ⟨pb, 3, none⟩ = some (.int .i64 s.asked) := hb.cell 3
    have f3 := hb.free 3
    have lb := hb.lt
    have HB := Lib.hid (And.intro hb ho)
    clear hb ho hsa
    go_wp2_with fail
    go_ret2
  · exact ⟨rfl, hkeep.out _ HB.out.1 HB.out.2, HB.out.2⟩
  · exact ⟨rfl, hkeep.out _ HB.out.1 HB.out.2, HB.out.2⟩
  · exact ⟨rfl, hkeep.out _ HB.out.1 HB.out.2, HB.out.2⟩
  · have h2 := hkeep.out _ HB.out.1 HB.out.2
    refine ⟨rfl, ?_, HB.out.2.set_ (p := ⟨pb, 3, none⟩) (.inl rfl) _⟩
    have hset : Only (fun g => g = pb) w1 (w1.setCell ⟨pb, 3, none⟩ (.int .i64 (s.asked + 1))) := (Only.refl (fun g => g = pb) w1).set_ (p := ⟨pb, 3, none⟩) (.inl rfl) _
    exact ⟨HB.out.1.set_ 3 _, h2.map.only hset (fun e => h2.ne e.symm), h2.few, Hok.out, h2.total, h2.owed⟩

theorem pay_any (w : World) (pb mb : Nat) (s : PayS) (h : Bk w pb (pcs mb s) 60) (h1 : 0 ≤ s.owed ∧ s.owed ≤ 1000000000000) (h2 : 0 ≤ s.total ∧ s.total ≤ 1000000000) :
    Calls Try.prog 32 #[.pointer (some ⟨pb, 0, none⟩)] w fun e w' => e = .returned (.tuple #[]) ∧ Bk w' pb (pcs mb (payS s)) 60 ∧ Only (fun g => g = pb) w w' := by
  obtain ⟨s0, s1, s2, s3, s4, s5, s6⟩ := s
  obtain ⟨o1, o2⟩ := h1
  obtain ⟨p1, p2⟩ := h2
  simp only at o1 o2 p1 p2
  have H := Lib.hid h
  have c5 : w.cell? ⟨pb, 5, none⟩ = some (.int .i64 s4) := h.cell 5
  have c6 : w.cell? ⟨pb, 6, none⟩ = some (.int .i64 s5) := h.cell 6
  have c2 : w.cell? ⟨pb, 2, none⟩ = some (.int .i64 s2) := h.cell 2
  have f5 := h.free 5
  have f6 := h.free 6
  have lb := h.lt
  clear h
  by_cases h1 : s4 = 1
  · subst h1
    go_enter Try.func32, Try.ntmps32
    go_wp2_with fail
    exact bodyPost_ret (v := .tuple #[]) (by simp [results, Try.results32, go_sem]) rfl ⟨rfl, H.out.set_ 5 _, (Only.refl (fun g => g = pb) w).set_ (p := ⟨pb, 5, none⟩) (.inl rfl) _⟩
  · go_enter Try.func32, Try.ntmps32
    go_wp2_with fail
    go_region
    all_goals go_wp2_with fail
    all_goals go_end0
    all_goals refine ⟨rfl, ?_, ?_⟩
    all_goals first | (show Only _ _ _; (repeat (first | with_reducible exact Only.refl _ _ | with_reducible assumption | with_reducible refine Only.alloc ?_ _ | with_reducible refine Only.ext0 ?_ _ | with_reducible refine Only.drew ?_ | with_reducible refine Only.drewN ?_ _ | (with_reducible refine Only.set_ (hp := ?hp) ?_ _; case hp => (first | (left; rfl) | (left; left; rfl) | (right; simp; done) | (right; simp; omega) | (left; simp; done) | (left; simp [*]; done))))); done) | skip
    · rename_i h3
      have h3' : s4 = 3 := by simpa using h3
      have e : pcs mb (payS ⟨s0, s1, s2, s3, s4, s5, s6⟩) = ((pcs mb ⟨s0, s1, s2, s3, s4, s5, s6⟩).setIfInBounds 6 (.int .i64 (s5 + s2))).setIfInBounds 5 (.int .i64 4) := by
        subst h3'; unfold payS pcs; simp
      rw [e]
      exact ((H.out.set_ 6 _).set_ 5 _).drew
    · rename_i h3
      have h3' : ¬ s4 = 3 := by simpa using h3
      have e : pcs mb (payS ⟨s0, s1, s2, s3, s4, s5, s6⟩) = (pcs mb ⟨s0, s1, s2, s3, s4, s5, s6⟩).setIfInBounds 6 (.int .i64 (s5 + s2)) := by
        unfold payS pcs; simp [h1, h3']
      rw [e]
      exact (H.out.set_ 6 _).drew
end Go.Proofs.Ythgiopgapkjleaa
