/- Layer 28 (pay): the reference's payment, walked: done, State, Owed, Ask. -/
import Derived.Test.YthgiopgapkjleaaPayI
import Derived.Test.YthgiopgapkjleaaPayS
namespace Go.Proofs.Ythgiopgapkjleaa
open Go.RowKit
set_option linter.unusedVariables false
set_option linter.unusedSimpArgs false
attribute [local go_sem] ext_cell ext_frozen lt_ext ext_drew

def intsV (zs : List Int) : List Value := zs.map (Value.int .i64)
def RefBk (w : World) (rb : Nat) (r : RefS) (A1 : Option Addr) (c1 : Nat) (A2 : Option Addr) (c2 : Nat) : Prop :=
  Bk w rb #[.int .i64 r.total, .int .i64 r.till, .int .i64 r.now, .slice A1 r.answers.length c1, .slice A2 r.yes.length c2] 63
/-- The reference's payment at block rb is r; all its blocks lie from base on. -/
structure RefIs (w : World) (rb base K : Nat) (r : RefS) (A1 : Option Addr) (c1 : Nat) (A2 : Option Addr) (c2 : Nat) : Prop where
  bk : RefBk w rb r A1 c1 A2 c2
  row : w.ownsRow base 3 1 (.slice A1 r.answers.length c1) r.answers.length (intsV r.answers)
  yes : w.ownsRow base 3 1 (.slice A2 r.yes.length c2) r.yes.length (intsV r.yes)
  apart : ∀ g, (Value.slice A1 r.answers.length c1).ownBlock = some g → (Value.slice A2 r.yes.length c2).ownBlock ≠ some g
  base_ : base ≤ rb
  few : r.answers.length ≤ 100
  few2 : r.yes.length ≤ K
  tot : 0 ≤ r.total ∧ r.total ≤ 1000000000
  now : 0 ≤ r.now ∧ r.now ≤ 1000000000
  till : 0 ≤ r.till ∧ r.till ≤ 1000000000
  yesf : ∀ x ∈ r.yes, fits x
  ansf : ∀ x ∈ r.answers, 0 ≤ x ∧ x ≤ 2

theorem own_ne {w : World} {base : Nat} {e : TypeId} {size : Nat} {v : Value} {n : Nat} {xs : List Value} (h : w.ownsRow base e size v n xs) {rb : Nat} {C : Array Value} {t : TypeId} (hk : Bk w rb C t) (hte : t ≠ e) : v.ownBlock ≠ some rb := by
  intro e1
  rcases h.2 with ⟨rfl, _⟩ | ⟨g, cap, cur, rfl, _, h2, _⟩
  · simp [Value.ownBlock] at e1
  · simp only [Value.ownBlock, Option.some.injEq] at e1
    subst e1
    have := hk.symm.trans h2
    simp only [Option.some.injEq, Obj.cells.injEq] at this
    exact hte this.2.1
theorem own_set {w : World} {base : Nat} {e : TypeId} {g n c : Nat} {xs : List Value} (h : w.ownsRow base e 1 (.slice (some ⟨g, 0, none⟩) n c) n xs) (j : Nat) (hj : j < n) (u : Value) :
    (w.setCell ⟨g, j, none⟩ u).ownsRow base e 1 (.slice (some ⟨g, 0, none⟩) n c) n (xs.set j u) := by
  obtain ⟨g', cur, hA, h1, h2, h3, h4, h5, h6, h7⟩ := own_block h (by omega)
  simp only [Option.some.injEq, Addr.mk.injEq, and_true] at hA
  subst hA
  refine ⟨by rw [List.length_set]; exact h.1, .inr ⟨g, c, cur.setIfInBounds j u, rfl, h1, h3.set_ j u, h4, h5, by simp [h6], ?_⟩⟩
  rw [Array.toList_setIfInBounds, List.take_set, h7]

section
variable {w w' : World} {rb base K : Nat} {r : RefS} {A1 : Option Addr} {c1 : Nat} {A2 : Option Addr} {c2 : Nat}
theorem RefIs.only {S : Nat → Prop} (h : RefIs w rb base K r A1 c1 A2 c2) (ho : Only S w w') (hS : ∀ g, S g → g < base) : RefIs w' rb base K r A1 c1 A2 c2 :=
  ⟨h.bk.only ho (fun hs => by have := hS _ hs; have := h.base_; omega), own_only h.row ho (fun g hg hs => by have := (own_lt h.row hg).1; have := hS _ hs; omega), own_only h.yes ho (fun g hg hs => by have := (own_lt h.yes hg).1; have := hS _ hs; omega),
   h.apart, h.base_, h.few, h.few2, h.tot, h.now, h.till, h.yesf, h.ansf⟩
theorem RefIs.below (h : RefIs w rb base K r A1 c1 A2 c2) (hb : Below w.heap.size w w') : RefIs w' rb base K r A1 c1 A2 c2 := h.only (Only.of_below (S := fun _ => False) hb) (fun _ h => h.elim)
theorem RefIs.drew (h : RefIs w rb base K r A1 c1 A2 c2) (n : Nat) : RefIs (w.drewN n) rb base K r A1 c1 A2 c2 := h.below (below_drewN (Below.refl _ _) n)
theorem RefIs.more (h : RefIs w rb base K r A1 c1 A2 c2) : RefIs w rb base (K + 1) r A1 c1 A2 c2 := ⟨h.bk, h.row, h.yes, h.apart, h.base_, h.few, by have := h.few2; omega, h.tot, h.now, h.till, h.yesf, h.ansf⟩
theorem RefIs.now_ (h : RefIs w rb base K r A1 c1 A2 c2) (now : Int) (hn : 0 ≤ now ∧ now ≤ 1000000000) : RefIs (w.setCell ⟨rb, 2, none⟩ (.int .i64 (max r.now now))) rb base K (passR r now) A1 c1 A2 c2 := by
  have hs : Only (fun g => g = rb) w (w.setCell ⟨rb, 2, none⟩ (.int .i64 (max r.now now))) := (Only.refl (fun g => g = rb) w).set_ (p := ⟨rb, 2, none⟩) (.inl rfl) _
  have h1 := h.now
  exact ⟨h.bk.set_ 2 _, own_only h.row hs (fun g hg e => by subst e; exact own_ne h.row h.bk (by decide) hg), own_only h.yes hs (fun g hg e => by subst e; exact own_ne h.yes h.bk (by decide) hg),
    h.apart, h.base_, h.few, h.few2, h.tot, by show 0 ≤ max r.now now ∧ max r.now now ≤ _; omega, h.till, h.yesf, h.ansf⟩
end

theorem rdone_any (w : World) (rb base K : Nat) (r : RefS) (A1 : Option Addr) (c1 : Nat) (A2 : Option Addr) (c2 : Nat) (h : RefIs w rb base K r A1 c1 A2 c2) (hK : K ≤ 1000) :
    Calls Try.prog 30 #[.pointer (some ⟨rb, 0, none⟩)] w fun e w' => e = .returned (.bool (doneR r)) ∧ ∃ n, w.drewN n = w' := by
  obtain ⟨total, till, now, answers, yes⟩ := r
  have cb1 : w.cell? ⟨rb, 1, none⟩ = some (.int .i64 till) := h.bk.cell 1
  have cb4 : w.cell? ⟨rb, 4, none⟩ = some (.slice A2 yes.length c2) := h.bk.cell 4
  have hf := h.few2
  have hl : yes.length ≤ 1000 := by simp only at hf; omega
  have hown := h.yes
  simp only at hown
  cases yes with
  | nil =>
    clear h hown
    go_enter Try.func30, Try.ntmps30
    go_wp2_with fail
    go_quiet (fail)
    go_wp2_with fail
    go_ret
    exact ⟨rfl, _, rfl⟩
  | cons t ys =>
    obtain ⟨g, cur, rfl, _, hg, _⟩ := own_block hown (by simp)
    have c0 : w.cell? ⟨g, 0, none⟩ = some (.int .i64 t) := hown.cellAt 0 (by simp)
    have hpos : 0 < ys.length + 1 := by omega
    have hpos' : (0 : Int) < (ys.length : Int) + 1 := by omega
    have hD : doneR ⟨total, till, now, answers, t :: ys⟩ = decide (t ≤ till) := rfl
    rw [hD]
    have hlen : (t :: ys).length = ys.length + 1 := rfl
    rw [hlen] at cb4 hl
    clear h hown hD hlen hf
    go_enter Try.func30, Try.ntmps30
    go_wp2_with fail
    go_quiet (fail)
    go_wp2_with fail
    go_ret
    exact ⟨ret_bool (by simp), _, rfl⟩
theorem rdone_is (d : Bool) (w : World) (rb base K : Nat) (r : RefS) (A1 : Option Addr) (c1 : Nat) (A2 : Option Addr) (c2 : Nat) (h : RefIs w rb base K r A1 c1 A2 c2) (hK : K ≤ 1000) (hd : Hid (doneR r = d)) :
    Calls Try.prog 30 #[.pointer (some ⟨rb, 0, none⟩)] w fun e w' => e = .returned (.bool d) ∧ ∃ n, w.drewN n = w' := by
  have := rdone_any w rb base K r A1 c1 A2 c2 h hK
  rwa [hd.out] at this

theorem rstate_nil (w : World) : Calls Try.prog 17 #[.pointer none] w fun e w' => e = .returned (.int .i64 0) ∧ w = w' := by
  go_enter Try.func17, Try.ntmps17
  go_wp2
  go_ret
  exact ⟨rfl, rfl⟩
theorem rowed_nil (w : World) : Calls Try.prog 19 #[.pointer none] w fun e w' => e = .returned (.int .i64 0) ∧ w = w' := by
  go_enter Try.func19, Try.ntmps19
  go_wp2
  go_ret
  exact ⟨rfl, rfl⟩
theorem rask_nil (w : World) (now : Int) : Calls Try.prog 14 #[.pointer none, .int .i64 now] w fun e w' => e = .returned (.tuple #[.int .i64 0, .int .i64 1]) ∧ w = w' := by
  go_enter Try.func14, Try.ntmps14
  go_wp2
  go_ret2
  exact ⟨rfl, rfl⟩
theorem ranswer_nil (w : World) (a : Int) (y : Bool) (now : Int) : Calls Try.prog 15 #[.pointer none, .int .i64 a, .bool y, .int .i64 now] w fun e w' => e = .returned (.tuple #[.int .i64 0, .int .i64 1]) ∧ w = w' := by
  go_enter Try.func15, Try.ntmps15
  go_wp2
  go_ret2
  exact ⟨rfl, rfl⟩

set_option maxHeartbeats 1000000 in
theorem rstate_any (w : World) (rb base K : Nat) (r : RefS) (A1 : Option Addr) (c1 : Nat) (A2 : Option Addr) (c2 : Nat) (h : RefIs w rb base K r A1 c1 A2 c2) (hK : K ≤ 1000) :
    Calls Try.prog 17 #[.pointer (some ⟨rb, 0, none⟩)] w fun e w' => e = .returned (.int .i64 (stateR r)) ∧ ∃ n, w.drewN n = w' := by
  have H := Lib.hid h
  have cb1 : w.cell? ⟨rb, 1, none⟩ = some (.int .i64 r.till) := h.bk.cell 1
  have cb2 : w.cell? ⟨rb, 2, none⟩ = some (.int .i64 r.now) := h.bk.cell 2
  have cb4 : w.cell? ⟨rb, 4, none⟩ = some (.slice A2 r.yes.length c2) := h.bk.cell 4
  have hl : r.yes.length ≤ 1000 := by have := h.few2; omega
  obtain ⟨d, hd⟩ : ∃ d, doneR r = d := ⟨_, rfl⟩
  have hs : stateR r = if d then 2 else if r.yes ≠ [] then 4 else if r.till < r.now then 3 else 1 := by unfold stateR; rw [hd]
  have Hd := Lib.hid hd
  obtain ⟨st, hst⟩ : ∃ v, stateR r = v := ⟨_, rfl⟩
  rw [hst] at hs ⊢
  have Hs := Lib.hid hs
  obtain ⟨total, till, now, answers, yes⟩ := r
  simp only at cb1 cb2 cb4 hl
  clear h hd hs hst
  cases d
  · cases yes with
    | nil =>
      have hs := Hs.out
      by_cases ht : till < now
      · have h5 : decide (till < now) = true := decide_eq_true ht
        simp [ht] at hs
        subst hs
        go_enter Try.func17, Try.ntmps17
        go_wp2_with (go_at_call 30; refine (rdone_is _ _ _ _ _ _ _ _ _ _ H.out hK Hd).mono ?_; rintro e w' ⟨rfl, n, rfl⟩)
        go_quiet (fail)
        go_wp2_with fail
        go_ret
        exact ⟨rfl, _, (World.drewN_drewN ..).symm⟩
      · have h5 : decide (till < now) = false := decide_eq_false ht
        simp [ht] at hs
        subst hs
        go_enter Try.func17, Try.ntmps17
        go_wp2_with (go_at_call 30; refine (rdone_is _ _ _ _ _ _ _ _ _ _ H.out hK Hd).mono ?_; rintro e w' ⟨rfl, n, rfl⟩)
        go_quiet (fail)
        go_wp2_with fail
        go_ret
        exact ⟨rfl, _, (World.drewN_drewN ..).symm⟩
    | cons t ys =>
      have hs := Hs.out
      simp at hs
      subst hs
      have hlen : (t :: ys).length = ys.length + 1 := rfl
      rw [hlen] at cb4 hl
      have hpos' : (0 : Int) < (ys.length : Int) + 1 := by omega
      clear hlen
      go_enter Try.func17, Try.ntmps17
      go_wp2_with (go_at_call 30; refine (rdone_is _ _ _ _ _ _ _ _ _ _ H.out hK Hd).mono ?_; rintro e w' ⟨rfl, n, rfl⟩)
      go_ret
      exact ⟨rfl, _, rfl⟩
  · have hs := Hs.out
    simp at hs
    subst hs
    go_enter Try.func17, Try.ntmps17
    go_wp2_with (go_at_call 30; refine (rdone_is _ _ _ _ _ _ _ _ _ _ H.out hK Hd).mono ?_; rintro e w' ⟨rfl, n, rfl⟩)
    go_ret
    exact ⟨rfl, _, rfl⟩
theorem rstate_is (x : Int) (w : World) (rb base K : Nat) (r : RefS) (A1 : Option Addr) (c1 : Nat) (A2 : Option Addr) (c2 : Nat) (h : RefIs w rb base K r A1 c1 A2 c2) (hK : K ≤ 1000) (he : Hid (stateR r = x)) :
    Calls Try.prog 17 #[.pointer (some ⟨rb, 0, none⟩)] w fun e w' => e = .returned (.int .i64 x) ∧ ∃ n, w.drewN n = w' := by
  have := rstate_any w rb base K r A1 c1 A2 c2 h hK
  rwa [he.out] at this

set_option maxHeartbeats 1000000 in
theorem rowed_any (w : World) (rb base K : Nat) (r : RefS) (A1 : Option Addr) (c1 : Nat) (A2 : Option Addr) (c2 : Nat) (h : RefIs w rb base K r A1 c1 A2 c2) (hK : K ≤ 1000) :
    Calls Try.prog 19 #[.pointer (some ⟨rb, 0, none⟩)] w fun e w' => e = .returned (.int .i64 (owedR r)) ∧ ∃ n, w.drewN n = w' := by
  have H := Lib.hid h
  have cb0 : w.cell? ⟨rb, 0, none⟩ = some (.int .i64 r.total) := h.bk.cell 0
  have cb4 : w.cell? ⟨rb, 4, none⟩ = some (.slice A2 r.yes.length c2) := h.bk.cell 4
  have hl : r.yes.length ≤ 1000 := by have := h.few2; omega
  obtain ⟨d, hd⟩ : ∃ d, doneR r = d := ⟨_, rfl⟩
  have hs : owedR r = ((r.yes.length : Int) - (if d then 1 else 0)) * r.total := by unfold owedR; rw [hd]
  have Hd := Lib.hid hd
  obtain ⟨ow, how⟩ : ∃ v, owedR r = v := ⟨_, rfl⟩
  rw [how] at hs ⊢
  have Hs := Lib.hid hs
  have htot := h.tot
  obtain ⟨total, till, now, answers, yes⟩ := r
  simp only at cb0 cb4 hl htot
  obtain ⟨t1, t2⟩ := htot
  have hdpos : d = true → 1 ≤ yes.length := fun e => by
    subst e
    have h1 := Hd.out
    unfold doneR at h1
    cases yes with
    | nil => cases h1
    | cons t ys => simp
  have p1 : 0 ≤ (yes.length : Int) * total := Int.mul_nonneg (by omega) t1
  have p2 : (yes.length : Int) * total ≤ 1000 * 1000000000 := Int.mul_le_mul (by omega) t2 t1 (by omega)
  clear h hd hs how
  cases d
  · clear hdpos
    go_enter Try.func19, Try.ntmps19
    go_wp2_with (go_at_call 30; refine (rdone_is _ _ _ _ _ _ _ _ _ _ H.out hK Hd).mono ?_; rintro e w' ⟨rfl, n, rfl⟩)
    go_ret
    exact ⟨ret_int (by rw [Hs.out]; simp), _, rfl⟩
  · have hp := hdpos rfl
    have p3 : 0 ≤ ((yes.length : Int) - 1) * total := Int.mul_nonneg (by omega) t1
    have p4 : ((yes.length : Int) - 1) * total ≤ 1000 * 1000000000 := Int.mul_le_mul (by omega) t2 t1 (by omega)
    clear hdpos
    go_enter Try.func19, Try.ntmps19
    go_wp2_with (go_at_call 30; refine (rdone_is _ _ _ _ _ _ _ _ _ _ H.out hK Hd).mono ?_; rintro e w' ⟨rfl, n, rfl⟩)
    go_ret
    exact ⟨ret_int (by rw [Hs.out]; simp), _, rfl⟩
theorem rowed_is (x : Int) (w : World) (rb base K : Nat) (r : RefS) (A1 : Option Addr) (c1 : Nat) (A2 : Option Addr) (c2 : Nat) (h : RefIs w rb base K r A1 c1 A2 c2) (hK : K ≤ 1000) (he : Hid (owedR r = x)) :
    Calls Try.prog 19 #[.pointer (some ⟨rb, 0, none⟩)] w fun e w' => e = .returned (.int .i64 x) ∧ ∃ n, w.drewN n = w' := by
  have := rowed_any w rb base K r A1 c1 A2 c2 h hK
  rwa [he.out] at this
end Go.Proofs.Ythgiopgapkjleaa
